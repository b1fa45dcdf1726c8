import Derived.Test.YtbkodohojpchjaaGreatDoorDnYTab
import Derived.Test.YtbkodohojpchjaaGreatDoorDnC
import Derived.Test.YtbkodohojpchjaaGreatDoorDnD
import Derived.Test.YtbkodohojpchjaaGreatDoorDnYT
import Derived.KernelRfl
import Derived.Test.YtbkodohojpchjaaGreatDoorProg
/- Plain functions. Conditions: none. -/
set_option linter.unusedVariables false
set_option linter.unusedSimpArgs false
open Go.IntKind renaming wrap→bB,bits→AS
open Int renaming toNat→sh,fdiv→IT
open Nat renaming beq→AI,le_of_ble_eq_true→IN,eq_of_beq_eq_true→No
open Go.Extern.SlicesOverlaps renaming overlaps→AT
open List renaming drop→By,take→BY,replicate→aar
open Go.Shelf renaming Ren→OF
open Go.Op renaming bytesLess→aas
open Go.Proofs.Lays renaming n146→aaC,n160→aaR,n151→aaS
open Go Dn Go.Proofs
set_option maxRecDepth 100000
namespace Dn.S
noncomputable section
theorem nR:fZ Tryz.prog (yY P3):=Og (by kernel_rfl)
theorem UD:RR Tryz.prog (yY P3):=VC (by kernel_rfl)
theorem vN:Tryz.prog.follows .mixedOrders=true:=by kernel_rfl
def oIB {R:Type}(k0:IntKind)(l0:List MV)(K:Int->Bool->Option R):Option R:=gC l0 λm0 l1=>gI k0 m0 λx0=>gC l1 λm1 l2=>gB m1 λx1=>gN l2<|K x0 x1
def V9 {R:Type}(k0 k1:IntKind)(l0:List MV)(K:Int->Int->Option R):Option R:=gC l0 λm0 l1=>gI k0 m0 λx0=>gC l1 λm1 l2=>gI k1 m1 λx1=>gN l2<|K x0 x1
def afR {R:Type}(k0 k1 k2:IntKind)(l0:List MV)(K:Int->Int->Int->Option R):Option R:=gC l0 λm0 l1=>gI k0 m0 λx0=>gC l1 λm1 l2=>gI k1 m1 λx1=>gC l2 λm2 l3=>gI k2 m2 λx2=>gN l3<|K x0 x1 x2
def UE {R:Type}(k0 k1 k2 k4:IntKind)(l0:List MV)(K:Int->Int->Int->List UInt8->Int->List MV->Option R):Option R:=gC l0 λm0 l1=>gI k0 m0 λx0=>gC l1 λm1 l2=>gI k1 m1 λx1=>gC l2 λm2 l3=>gI k2 m2 λx2=>gC l3 λm3 l4=>gS m3 λx3=>gC l4 λm4 l5=>gI k4 m4 λx4=>gC l5 λm5 l6=>gL m5 λx5=>gN l6<|K x0 x1 x2 x3 x4 x5
def M9 {R:Type}(k0 k1 k2 k5 k6 k7:IntKind)(l0:List MV)(K:Int->Int->Int->List UInt8->List UInt8->Int->Int->Int->Option R):Option R:=gC l0 λm0 l1=>gI k0 m0 λx0=>gC l1 λm1 l2=>gI k1 m1 λx1=>gC l2 λm2 l3=>gI k2 m2 λx2=>gC l3 λm3 l4=>gS m3 λx3=>gC l4 λm4 l5=>gS m4 λx4=>gC l5 λm5 l6=>gI k5 m5 λx5=>gC l6 λm6 l7=>gI k6 m6 λx6=>gC l7 λm7 l8=>gI k7 m7 λx7=>gN l8<|K x0 x1 x2 x3 x4 x5 x6 x7
def oIL {R:Type}(k0:IntKind)(l0:List MV)(K:Int->List MV->Option R):Option R:=gC l0 λm0 l1=>gI k0 m0 λx0=>gC l1 λm1 l2=>gL m1 λx1=>gN l2<|K x0 x1
def oLI {R:Type}(k1:IntKind)(l0:List MV)(K:List MV->Int->Option R):Option R:=gC l0 λm0 l1=>gL m0 λx0=>gC l1 λm1 l2=>gI k1 m1 λx1=>gN l2<|K x0 x1
def aaa {R:Type}(k1:IntKind)(l0:List MV)(K:List MV->Int->List MV->List MV->List MV->Option R):Option R:=gC l0 λm0 l1=>gL m0 λx0=>gC l1 λm1 l2=>gI k1 m1 λx1=>gC l2 λm2 l3=>gL m2 λx2=>gC l3 λm3 l4=>gL m3 λx3=>gC l4 λm4 l5=>gL m4 λx4=>gN l5<|K x0 x1 x2 x3 x4
def cK {R:Type}(k1 k5 k6 k7 k10 k11 k12 k13 k14 k15 k17:IntKind)(l0:List MV)(K:List MV->Int->List MV->List MV->List MV->Int->Int->Int->List UInt8->List UInt8->Int->Int->Int->Int->Int->Int->List UInt8->Int->List MV->List MV->Option R):Option R:=gC l0 λm0 l1=>gL m0 λx0=>gC l1 λm1 l2=>gI k1 m1 λx1=>gC l2 λm2 l3=>gL m2 λx2=>gC l3 λm3 l4=>gL m3 λx3=>gC l4 λm4 l5=>gL m4 λx4=>gC l5 λm5 l6=>gI k5 m5 λx5=>gC l6 λm6 l7=>gI k6 m6 λx6=>gC l7 λm7 l8=>gI k7 m7 λx7=>gC l8 λm8 l9=>gS m8 λx8=>gC l9 λm9 l10=>gS m9 λx9=>gC l10 λSP l11=>gI k10 SP λHg=>gC l11 λm11 l12=>gI k11 m11 λJE=>gC l12 λm12 l13=>gI k12 m12 λJF=>gC l13 λm13 l14=>gI k13 m13 λJG=>gC l14 λm14 l15=>gI k14 m14 λJH=>gC l15 λm15 l16=>gI k15 m15 λJI=>gC l16 λm16 l17=>gS m16 λJJ=>gC l17 λm17 l18=>gI k17 m17 λLw=>gC l18 λm18 l19=>gL m18 λLx=>gC l19 λm19 l20=>gL m19 λLy=>gN l20<|K x0 x1 x2 x3 x4 x5 x6 x7 x8 x9 Hg JE JF JG JH JI JJ Lw Lx Ly
def aja {R:Type}(k1:IntKind)(l0:List MV)(K:List UInt8->Int->Bool->Option R):Option R:=gC l0 λm0 l1=>gS m0 λx0=>gC l1 λm1 l2=>gI k1 m1 λx1=>gC l2 λm2 l3=>gB m2 λx2=>gN l3<|K x0 x1 x2
def aec {R:Type}(k2 k3:IntKind)(l0:List MV)(K:List UInt8->List UInt8->Int->Int->Option R):Option R:=gC l0 λm0 l1=>gS m0 λx0=>gC l1 λm1 l2=>gS m1 λx1=>gC l2 λm2 l3=>gI k2 m2 λx2=>gC l3 λm3 l4=>gI k3 m3 λx3=>gN l4<|K x0 x1 x2 x3
abbrev eW {R:Type}:= @M9 R .i64 .i64 .i64 .i64 .i64 .i64
abbrev Xe {R:Type}:= @oIL R .i64
abbrev JK {R:Type}:= @oLI R .i64
abbrev qE {R:Type}:= @UE R .i64 .i64 .i64 .i64
abbrev jII {R:Type}:= @V9 R .i64 .i64
abbrev UF {R:Type}:= @oIB R .i64
abbrev vO {R:Type}:= @aaa R .i64
abbrev aL {R:Type}:= @cK R .i64 .i64 .i64 .i64 .i64 .i64 .i64 .i64 .i64 .i64 .i64
abbrev Wd {R:Type}:= @afR R .i64 .i64 .i64
abbrev tw {R:Type}:= @aec R .i64 .i64
abbrev We {R:Type}:= @aja R .i64
@[reducible] def ke (x0 : Int)(x1 : Int)(x2 : Int)(x3 : List UInt8)(x4 : Int)(x5 : List MV) : List MV := [.i .i64 x0, .i .i64 x1, .i .i64 x2, .s x3, .i .i64 x4, .list x5]
@[reducible] def cv (x0 : Int)(x1 : Int)(x2 : Int)(x3 : List UInt8)(x4 : List UInt8)(x5 : Int)(x6 : Int)(x7 : Int) : List MV := [.i .i64 x0, .i .i64 x1, .i .i64 x2, .s x3, .s x4, .i .i64 x5, .i .i64 x6, .i .i64 x7]
@[reducible] def mR (x0 : List MV)(x1 : Int)(x2 : List MV)(x3 : List MV)(x4 : List MV) : List MV := [.list x0, .i .i64 x1, .list x2, .list x3, .list x4]
@[reducible] def au (x0 : List MV)(x1 : Int)(x2 : List MV)(x3 : List MV)(x4 : List MV)(x5 : Int)(x6 : Int)(x7 : Int)(x8 : List UInt8)(x9 : List UInt8)(Hg : Int)(JE : Int)(JF : Int)(JG : Int)(JH : Int)(JI : Int)(JJ : List UInt8)(Lw : Int)(Lx : List MV)(Ly : List MV) : List MV := [.list x0, .i .i64 x1, .list x2, .list x3, .list x4, .i .i64 x5, .i .i64 x6, .i .i64 x7, .s x8, .s x9, .i .i64 Hg, .i .i64 JE, .i .i64 JF, .i .i64 JG, .i .i64 JH, .i .i64 JI, .s JJ, .i .i64 Lw, .list Lx, .list Ly]
@[reducible] def rP (x0 : List UInt8)(x1 : List UInt8)(x2 : Int)(x3 : Int) : List MV := [.s x0, .s x1, .i .i64 x2, .i .i64 x3]
def UG:List (Nat×qQ)->Nat->qQ
 |[],_=>default
 |(k,s)::r,t=>bif AI k t then s else UG r t
def aab:List (Nat×List Nat)->Nat->List Nat
 |[],_=>[]
 |(k,s)::r,t=>bif AI k t then s else aab r t
def aac:List (Nat×Nat)->Nat->Nat
 |[],_=>0
 |(k,s)::r,t=>bif AI k t then s else aac r t
def kk (n:Nat):Nat:=n
def gv (n:Nat):Bool:=bn [63,218,223,225,227,105,106,107,108,109,110,111,112,113,114,115,118,171,179] n
def frs (n:Nat):Bool:=bn [61,63,116,117,194,218,219,223,225,226,227,86,149,204,87,148] n
def aee:List (Nat×Nat):=[(61,57),(63,57),(116,75),(117,75),(194,9),(218,98),(219,98),(223,98),(225,126),(226,126),(227,126),(86,5),(149,5),(204,5),(87,5)]
def UH:List (Nat×FloatKind)->Nat->Option FloatKind
 |[],_=>none
 |(k,s)::r,t=>bif AI k t then some s else UH r t
def aad:List (Nat×FloatKind):=[]
theorem UI: ∀t k,UH aad t=some k->Tryz.prog.underlying t=some (.float k):=by intro t k h;cases h
def aae:List (Nat×(Nat×Bool)):=[]
def aaf:List (Nat×(Nat×List LK))->Nat->Option (Nat×List LK)
 |[],_=>none
 |(k,s)::r,t=>bif AI k t then some s else aaf r t
abbrev jV:List LK:=[.k (.l),.k (.i .i64),.k (.l),.k (.l),.k (.l),.k (.i .i64),.k (.i .i64),.k (.i .i64),.k (.s),.k (.s),.k (.i .i64),.k (.i .i64),.k (.i .i64),.k (.i .i64),.k (.i .i64),.k (.i .i64),.k (.s),.k (.i .i64),.k (.l),.own 2000019 77 false]
abbrev UJ:List LK:=[.own 2000000 79 false]
def aag:List (Nat×(Nat×List LK)):=[(105,(0,jV)),(106,(0,jV)),(107,(0,jV)),(108,(0,jV)),(109,(0,jV)),(110,(0,jV)),(111,(0,jV)),(112,(0,jV)),(113,(0,jV)),(114,(0,jV)),(115,(0,jV)),(118,(2,UJ)),(171,(0,jV)),(179,(0,jV))]
def dl (n:Nat):Bool:=bn [117] n
def cx:Ctx:=⟨yY P3,kk,λ_ _=>none,gv,frs,aac aee,aaf aag,[],0,[],[],λ_=>[],UH aad,I7 aae,λ_=>[],λ_=>default,λ_=>default,λ_=>default,dl,[]⟩
def UK (g:Nat->List MV->Option MV)(par:List (Nat×Nat))(n:Nat)(bs fl:List Nat)(fz ord:List (Nat×List Nat))(EU HD Gg:List (Nat×qQ))(dyn:List Nat):Ctx:=⟨yY P3,kk,g,gv,frs,aac aee,aaf aag,par,n,bs,fl,aab fz,UH aad,I7 aae,aab ord,UG EU,UG HD,UG Gg,dl,dyn⟩
theorem UL:Fb Tryz.prog cx:=Sj (l:=aae) (by kernel_rfl) (λ_ _ h=>h)
def gU (t:Nat):TI:=match yY P3 t with|some I=>I|none=>⟨false,0,0,[],[],[],[],0,[]⟩
theorem tv9:cx.tv 9=some (gU 9):=by kernel_rfl
theorem afS:cx.tv 22=some (gU 22):=by kernel_rfl
theorem afT:cx.tv 25=some (gU 25):=by kernel_rfl
theorem am7:cx.tv 28=some (gU 28):=by kernel_rfl
theorem ajb:cx.tv 31=some (gU 31):=by kernel_rfl
theorem ajc:cx.tv 57=some (gU 57):=by kernel_rfl
theorem am8:cx.tv 75=some (gU 75):=by kernel_rfl
theorem afU:cx.tv 98=some (gU 98):=by kernel_rfl
theorem aah:cx.tv 126=some (gU 126):=by kernel_rfl
theorem acR:Oj Tryz.prog cx 117 75:=by
 have hE:cx.tv 75=some (gU 75):=by kernel_rfl
 refine ach (P:=Tryz.prog) (f:=117) (fi:=182) (t:=28) (ti:=3) (tb:=4) (fu:=191) (el:=75) (fn:=Tryz.f117) (fni:=Tryz.f182) (r:=(λk=>(([0,1,2,3,4,5,7,8,9,10,6,11,12]:List Nat)[k]?).getD 0)) (ri:=(λk=>(([0,1,2,3,4,5,6,7]:List Nat)[k]?).getD 0)) (o:=iv Tryz.f117 iw) (oi:=iv Tryz.f182 iw) ⟨Tryz.func117,by kernel_rfl,by kernel_rfl,by kernel_rfl,by kernel_rfl,?_,by kernel_rfl⟩ ⟨Tryz.func182,by kernel_rfl,by kernel_rfl,by kernel_rfl,by kernel_rfl,?_,by kernel_rfl⟩ nR hE (by kernel_rfl) (IN (by kernel_rfl))
 ·constructor<;>exact ⟨by kernel_rfl,by kernel_rfl,by kernel_rfl⟩
 ·constructor<;>exact ⟨by kernel_rfl,by kernel_rfl,by kernel_rfl⟩
theorem HV:xL Tryz.prog cx:=by
 intro n hn;unfold cx dl bn at hn;cases aef:AI 117 n with
 |true=>have:=No aef;subst this;exact acR
 |false=>
 simp only [aef,cond_false] at hn;try unfold bn at hn
 cases hn
def GI:OF:=⟨λ|146=>194|221=>233|268=>252|138=>253|143=>254|195=>269|197=>270|218=>271|219=>272|260=>282|217=>283|225=>279|224=>278|267=>284|266=>286|314=>287|n=>n,λ|9=>9|31=>55|3=>3|4=>4|0=>0|105=>349|21=>21|5=>5|46=>226|119=>356|139=>359|138=>358|146=>327|51=>244|n=>n,λ|1=>0|3=>1|4=>2|n=>n⟩
theorem acS:aaC Tryz.prog GI:={
 mixed:=by kernel_rfl
 f138:=Tryz.func253.trans (congrArg some (by kernel_rfl))
 f143:=Tryz.func254.trans (congrArg some (by kernel_rfl))
 f146:=Tryz.func194.trans (congrArg some (by kernel_rfl))
 f195:=Tryz.func269.trans (congrArg some (by kernel_rfl))
 f197:=Tryz.func270.trans (congrArg some (by kernel_rfl))
 f217:=Tryz.func283.trans (congrArg some (by kernel_rfl))
 f218:=Tryz.func271.trans (congrArg some (by kernel_rfl))
 f219:=Tryz.func272.trans (congrArg some (by kernel_rfl))
 f221:=Tryz.func233.trans (congrArg some (by kernel_rfl))
 f224:=Tryz.func278.trans (congrArg some (by kernel_rfl))
 f225:=Tryz.func279.trans (congrArg some (by kernel_rfl))
 f260:=Tryz.func282.trans (congrArg some (by kernel_rfl))
 f266:=Tryz.func286.trans (congrArg some (by kernel_rfl))
 f267:=Tryz.func284.trans (congrArg some (by kernel_rfl))
 f268:=Tryz.func252.trans (congrArg some (by kernel_rfl))
 f314:=Tryz.func287.trans (congrArg some (by kernel_rfl))
 t0:=Tryz.underlying0
 a0:=Tryz.isAgg0
 z0:=Tryz.sizeOf0
 v0:=Tryz.zeroValue0
 t3:=Tryz.underlying3
 a3:=Tryz.isAgg3
 z3:=Tryz.sizeOf3
 v3:=Tryz.zeroValue3
 t4:=Tryz.underlying4
 a4:=Tryz.isAgg4
 z4:=Tryz.sizeOf4
 v4:=Tryz.zeroValue4
 t5:=Tryz.underlying5
 a5:=Tryz.isAgg5
 z5:=Tryz.sizeOf5
 v5:=Tryz.zeroValue5
 t9:=Tryz.underlying9
 a9:=Tryz.isAgg9
 z9:=Tryz.sizeOf9
 v9:=Tryz.zeroValue9
 t21:=Tryz.underlying21
 a21:=Tryz.isAgg21
 z21:=Tryz.sizeOf21
 v21:=Tryz.zeroValue21
 t31:=Tryz.underlying55
 a31:=Tryz.isAgg55
 z31:=Tryz.sizeOf55
 v31:=Tryz.zeroValue55
 t46:=Tryz.underlying226
 a46:=Tryz.isAgg226
 z46:=Tryz.sizeOf226
 v46:=Tryz.zeroValue226
 t51:=Tryz.underlying244
 a51:=Tryz.isAgg244
 z51:=Tryz.sizeOf244
 v51:=Tryz.zeroValue244
 t105:=Tryz.underlying349
 a105:=Tryz.isAgg349
 z105:=Tryz.sizeOf349
 v105:=Tryz.zeroValue349
 t119:=Tryz.underlying356
 a119:=Tryz.isAgg356
 z119:=Tryz.sizeOf356
 t138:=Tryz.underlying358
 a138:=Tryz.isAgg358
 z138:=Tryz.sizeOf358
 v138:=Tryz.zeroValue358
 t139:=Tryz.underlying359
 a139:=Tryz.isAgg359
 z139:=Tryz.sizeOf359
 v139:=Tryz.zeroValue359
 t146:=Tryz.underlying327
 a146:=Tryz.isAgg327
 z146:=Tryz.sizeOf327
 v146:=Tryz.zeroValue327
 g1:=by kernel_rfl
 g3:=by kernel_rfl
 g4:=by kernel_rfl}
def GJ:OF:=⟨λ|160=>235|232=>256|231=>255|227=>257|234=>259|233=>258|236=>261|235=>260|228=>273|271=>274|151=>238|197=>270|120=>285|152=>263|260=>282|137=>276|119=>277|224=>278|225=>279|217=>283|266=>286|n=>n,λ|9=>9|4=>4|3=>3|5=>5|117=>341|116=>340|0=>0|124=>344|21=>21|105=>349|46=>226|119=>356|139=>359|138=>358|n=>n,λ|3=>1|4=>2|n=>n⟩
theorem acT:aaR Tryz.prog GJ:={
 mixed:=by kernel_rfl
 f119:=Tryz.func277.trans (congrArg some (by kernel_rfl))
 f120:=Tryz.func285.trans (congrArg some (by kernel_rfl))
 f137:=Tryz.func276.trans (congrArg some (by kernel_rfl))
 f151:=Tryz.func238.trans (congrArg some (by kernel_rfl))
 f152:=Tryz.func263.trans (congrArg some (by kernel_rfl))
 f160:=Tryz.func235.trans (congrArg some (by kernel_rfl))
 f197:=Tryz.func270.trans (congrArg some (by kernel_rfl))
 f217:=Tryz.func283.trans (congrArg some (by kernel_rfl))
 f224:=Tryz.func278.trans (congrArg some (by kernel_rfl))
 f225:=Tryz.func279.trans (congrArg some (by kernel_rfl))
 f227:=Tryz.func257.trans (congrArg some (by kernel_rfl))
 f228:=Tryz.func273.trans (congrArg some (by kernel_rfl))
 f231:=Tryz.func255.trans (congrArg some (by kernel_rfl))
 f232:=Tryz.func256.trans (congrArg some (by kernel_rfl))
 f233:=Tryz.func258.trans (congrArg some (by kernel_rfl))
 f234:=Tryz.func259.trans (congrArg some (by kernel_rfl))
 f235:=Tryz.func260.trans (congrArg some (by kernel_rfl))
 f236:=Tryz.func261.trans (congrArg some (by kernel_rfl))
 f260:=Tryz.func282.trans (congrArg some (by kernel_rfl))
 f266:=Tryz.func286.trans (congrArg some (by kernel_rfl))
 f271:=Tryz.func274.trans (congrArg some (by kernel_rfl))
 t0:=Tryz.underlying0
 a0:=Tryz.isAgg0
 z0:=Tryz.sizeOf0
 v0:=Tryz.zeroValue0
 t3:=Tryz.underlying3
 a3:=Tryz.isAgg3
 z3:=Tryz.sizeOf3
 v3:=Tryz.zeroValue3
 t4:=Tryz.underlying4
 a4:=Tryz.isAgg4
 z4:=Tryz.sizeOf4
 v4:=Tryz.zeroValue4
 t5:=Tryz.underlying5
 a5:=Tryz.isAgg5
 z5:=Tryz.sizeOf5
 v5:=Tryz.zeroValue5
 t9:=Tryz.underlying9
 a9:=Tryz.isAgg9
 z9:=Tryz.sizeOf9
 v9:=Tryz.zeroValue9
 t21:=Tryz.underlying21
 a21:=Tryz.isAgg21
 z21:=Tryz.sizeOf21
 v21:=Tryz.zeroValue21
 t46:=Tryz.underlying226
 a46:=Tryz.isAgg226
 z46:=Tryz.sizeOf226
 v46:=Tryz.zeroValue226
 t105:=Tryz.underlying349
 a105:=Tryz.isAgg349
 z105:=Tryz.sizeOf349
 v105:=Tryz.zeroValue349
 t116:=Tryz.underlying340
 a116:=Tryz.isAgg340
 z116:=Tryz.sizeOf340
 t117:=Tryz.underlying341
 a117:=Tryz.isAgg341
 z117:=Tryz.sizeOf341
 v117:=Tryz.zeroValue341
 t119:=Tryz.underlying356
 a119:=Tryz.isAgg356
 z119:=Tryz.sizeOf356
 t124:=Tryz.underlying344
 a124:=Tryz.isAgg344
 z124:=Tryz.sizeOf344
 v124:=Tryz.zeroValue344
 t138:=Tryz.underlying358
 a138:=Tryz.isAgg358
 z138:=Tryz.sizeOf358
 v138:=Tryz.zeroValue358
 t139:=Tryz.underlying359
 a139:=Tryz.isAgg359
 z139:=Tryz.sizeOf359
 v139:=Tryz.zeroValue359
 g3:=by kernel_rfl
 g4:=by kernel_rfl}
def GK:OF:=⟨λ|151=>238|152=>263|137=>276|119=>277|224=>278|225=>279|217=>283|266=>286|n=>n,λ|9=>9|21=>21|4=>4|3=>3|5=>5|0=>0|46=>226|n=>n,λ|n=>n⟩
theorem acU:aaS Tryz.prog GK:={
 mixed:=by kernel_rfl
 f119:=Tryz.func277.trans (congrArg some (by kernel_rfl))
 f137:=Tryz.func276.trans (congrArg some (by kernel_rfl))
 f151:=Tryz.func238.trans (congrArg some (by kernel_rfl))
 f152:=Tryz.func263.trans (congrArg some (by kernel_rfl))
 f217:=Tryz.func283.trans (congrArg some (by kernel_rfl))
 f224:=Tryz.func278.trans (congrArg some (by kernel_rfl))
 f225:=Tryz.func279.trans (congrArg some (by kernel_rfl))
 f266:=Tryz.func286.trans (congrArg some (by kernel_rfl))
 t0:=Tryz.underlying0
 a0:=Tryz.isAgg0
 z0:=Tryz.sizeOf0
 v0:=Tryz.zeroValue0
 t3:=Tryz.underlying3
 a3:=Tryz.isAgg3
 z3:=Tryz.sizeOf3
 v3:=Tryz.zeroValue3
 t4:=Tryz.underlying4
 a4:=Tryz.isAgg4
 z4:=Tryz.sizeOf4
 v4:=Tryz.zeroValue4
 t5:=Tryz.underlying5
 a5:=Tryz.isAgg5
 z5:=Tryz.sizeOf5
 v5:=Tryz.zeroValue5
 t9:=Tryz.underlying9
 a9:=Tryz.isAgg9
 z9:=Tryz.sizeOf9
 v9:=Tryz.zeroValue9
 t21:=Tryz.underlying21
 a21:=Tryz.isAgg21
 z21:=Tryz.sizeOf21
 v21:=Tryz.zeroValue21
 t46:=Tryz.underlying226
 a46:=Tryz.isAgg226
 z46:=Tryz.sizeOf226
 v46:=Tryz.zeroValue226}
abbrev GT:=Nat->List MV->Option MV
abbrev SG (g:GT):Prop:=jE Tryz.prog cx g
theorem acV {g:GT}(h:SG g):SG (bt 194 As g):=h.Hf (λ_=>rfl) (λms r hr=>Z9 (P:=Tryz.prog) (ρ:=GI) (c:=cx) acS (by kernel_rfl) (by kernel_rfl) (by kernel_rfl) tv9 (by kernel_rfl) hr)
theorem acW {g:GT}(h:SG g):SG (bt 235 JB g):=h.Hf (λ_=>rfl) (λms r hr=>acN (P:=Tryz.prog) (ρ:=GJ) (c:=cx) acT (by kernel_rfl) (by kernel_rfl) hr)
theorem acX {g:GT}(h:SG g):SG (bt 238 ta g):=h.Hf (λ_=>rfl) (λms r hr=>SM (P:=Tryz.prog) (ρ:=GK) (c:=cx) acU (by kernel_rfl) hr)
theorem afV {g:GT}(h:SG g):SG (bt 61 (gn 6 72) g):=h.Hf (λ_=>rfl) (λms r hr=>by obtain ⟨xs,rfl,rfl,h1,h2⟩:=uZ hr;exact DR (P:=Tryz.prog) (c:=cx) (f:=61) (fn:=Tryz.f61) (t:=31) (I:=gU 31) (E:=gU 57) (i0:=0) (i1:=1) (i2:=2) (i3:=3) (oA:=iv Tryz.f61 iw 0) (oB:=iv Tryz.f61 iw 1) (oC:=iv Tryz.f61 iw 2) (oD:=iv Tryz.f61 iw 3) (oE:=iv Tryz.f61 iw 4) (oF:=iv Tryz.f61 iw 5) (oG:=iv Tryz.f61 iw 6) (oH:=iv Tryz.f61 iw 7) nR ajb (by kernel_rfl) ajc (IN (by kernel_rfl)) (by kernel_rfl) (by kernel_rfl) Tryz.func61 (by kernel_rfl) (by kernel_rfl) (by kernel_rfl) (by kernel_rfl) ⟨by kernel_rfl,by kernel_rfl,by kernel_rfl⟩ ⟨by kernel_rfl,by kernel_rfl,by kernel_rfl⟩ ⟨by kernel_rfl,by kernel_rfl,by kernel_rfl⟩ ⟨by kernel_rfl,by kernel_rfl,by kernel_rfl⟩ ⟨by kernel_rfl,by kernel_rfl,by kernel_rfl⟩ ⟨by kernel_rfl,by kernel_rfl,by kernel_rfl⟩ ⟨by kernel_rfl,by kernel_rfl,by kernel_rfl⟩ ⟨by kernel_rfl,by kernel_rfl,by kernel_rfl⟩ (by rw [show (gU 57).size=6 by kernel_rfl];exact h1) (by rw [show (gU 57).bytes=72 by kernel_rfl];exact h2))
theorem ajd:Jk Tryz.prog 63 31 3 4 57 122 Tryz.f63 (λk=>k) (iv Tryz.f63 iw) (OH (iv Tryz.f63 iw)):=by refine ⟨Tryz.func63,by kernel_rfl,by kernel_rfl,by kernel_rfl,by kernel_rfl,?_,vN,by kernel_rfl⟩;constructor<;>first|exact ⟨by kernel_rfl,by kernel_rfl,by kernel_rfl⟩|kernel_rfl
theorem am9: ∀args w,(callFunc 122 args).run Tryz.prog w=((AT #[31,31] #[4] args).run Tryz.prog w).andThen λv w'=> .ok (.value v) w':=λargs w=>run_callFunc_extern Tryz.func122 (by kernel_rfl) (by kernel_rfl) (by kernel_rfl) (e:=AT #[31,31] #[4]) (by kernel_rfl) args w
theorem afW {g:GT}(h:SG g):SG (bt 63 (j8 72) g):=h.Hf (λ_=>rfl) (λms r hr=>by obtain ⟨xs,ys,i,rfl,rfl,h1,h2,h3⟩:=xP hr;exact Fp (P:=Tryz.prog) (c:=cx) (I:=gU 31) (E:=gU 57) ajd nR ajb (by kernel_rfl) ajc (IN (by kernel_rfl)) (by kernel_rfl) (by kernel_rfl) (by kernel_rfl) (by kernel_rfl) am9 h1 h2 (by rw [show (gU 57).bytes=72 by kernel_rfl];exact h3))
theorem acY {g:GT}(h:SG g):SG (bt 116 (gn 3 32) g):=h.Hf (λ_=>rfl) (λms r hr=>by obtain ⟨xs,rfl,rfl,h1,h2⟩:=uZ hr;exact DR (P:=Tryz.prog) (c:=cx) (f:=116) (fn:=Tryz.f116) (t:=28) (I:=gU 28) (E:=gU 75) (i0:=0) (i1:=1) (i2:=2) (i3:=3) (oA:=iv Tryz.f116 iw 0) (oB:=iv Tryz.f116 iw 1) (oC:=iv Tryz.f116 iw 2) (oD:=iv Tryz.f116 iw 3) (oE:=iv Tryz.f116 iw 4) (oF:=iv Tryz.f116 iw 5) (oG:=iv Tryz.f116 iw 6) (oH:=iv Tryz.f116 iw 7) nR am7 (by kernel_rfl) am8 (IN (by kernel_rfl)) (by kernel_rfl) (by kernel_rfl) Tryz.func116 (by kernel_rfl) (by kernel_rfl) (by kernel_rfl) (by kernel_rfl) ⟨by kernel_rfl,by kernel_rfl,by kernel_rfl⟩ ⟨by kernel_rfl,by kernel_rfl,by kernel_rfl⟩ ⟨by kernel_rfl,by kernel_rfl,by kernel_rfl⟩ ⟨by kernel_rfl,by kernel_rfl,by kernel_rfl⟩ ⟨by kernel_rfl,by kernel_rfl,by kernel_rfl⟩ ⟨by kernel_rfl,by kernel_rfl,by kernel_rfl⟩ ⟨by kernel_rfl,by kernel_rfl,by kernel_rfl⟩ ⟨by kernel_rfl,by kernel_rfl,by kernel_rfl⟩ (by rw [show (gU 75).size=3 by kernel_rfl];exact h1) (by rw [show (gU 75).bytes=32 by kernel_rfl];exact h2))
theorem afX:Jk Tryz.prog 218 22 3 4 98 246 Tryz.f218 (λk=>k) (iv Tryz.f218 iw) (OH (iv Tryz.f218 iw)):=by refine ⟨Tryz.func218,by kernel_rfl,by kernel_rfl,by kernel_rfl,by kernel_rfl,?_,vN,by kernel_rfl⟩;constructor<;>first|exact ⟨by kernel_rfl,by kernel_rfl,by kernel_rfl⟩|kernel_rfl
theorem aje: ∀args w,(callFunc 246 args).run Tryz.prog w=((AT #[22,22] #[4] args).run Tryz.prog w).andThen λv w'=> .ok (.value v) w':=λargs w=>run_callFunc_extern Tryz.func246 (by kernel_rfl) (by kernel_rfl) (by kernel_rfl) (e:=AT #[22,22] #[4]) (by kernel_rfl) args w
theorem acZ {g:GT}(h:SG g):SG (bt 218 (j8 48) g):=h.Hf (λ_=>rfl) (λms r hr=>by obtain ⟨xs,ys,i,rfl,rfl,h1,h2,h3⟩:=xP hr;exact Fp (P:=Tryz.prog) (c:=cx) (I:=gU 22) (E:=gU 98) afX nR afS (by kernel_rfl) afU (IN (by kernel_rfl)) (by kernel_rfl) (by kernel_rfl) (by kernel_rfl) (by kernel_rfl) aje h1 h2 (by rw [show (gU 98).bytes=48 by kernel_rfl];exact h3))
theorem ac0 {g:GT}(h:SG g):SG (bt 219 (gn 4 48) g):=h.Hf (λ_=>rfl) (λms r hr=>by obtain ⟨xs,rfl,rfl,h1,h2⟩:=uZ hr;exact DR (P:=Tryz.prog) (c:=cx) (f:=219) (fn:=Tryz.f219) (t:=22) (I:=gU 22) (E:=gU 98) (i0:=0) (i1:=1) (i2:=2) (i3:=3) (oA:=iv Tryz.f219 iw 0) (oB:=iv Tryz.f219 iw 1) (oC:=iv Tryz.f219 iw 2) (oD:=iv Tryz.f219 iw 3) (oE:=iv Tryz.f219 iw 4) (oF:=iv Tryz.f219 iw 5) (oG:=iv Tryz.f219 iw 6) (oH:=iv Tryz.f219 iw 7) nR afS (by kernel_rfl) afU (IN (by kernel_rfl)) (by kernel_rfl) (by kernel_rfl) Tryz.func219 (by kernel_rfl) (by kernel_rfl) (by kernel_rfl) (by kernel_rfl) ⟨by kernel_rfl,by kernel_rfl,by kernel_rfl⟩ ⟨by kernel_rfl,by kernel_rfl,by kernel_rfl⟩ ⟨by kernel_rfl,by kernel_rfl,by kernel_rfl⟩ ⟨by kernel_rfl,by kernel_rfl,by kernel_rfl⟩ ⟨by kernel_rfl,by kernel_rfl,by kernel_rfl⟩ ⟨by kernel_rfl,by kernel_rfl,by kernel_rfl⟩ ⟨by kernel_rfl,by kernel_rfl,by kernel_rfl⟩ ⟨by kernel_rfl,by kernel_rfl,by kernel_rfl⟩ (by rw [show (gU 98).size=4 by kernel_rfl];exact h1) (by rw [show (gU 98).bytes=48 by kernel_rfl];exact h2))
theorem afY:Qn Tryz.prog 223 22 3 98 Tryz.f223 (λk=>k) (iv Tryz.f223 iw):=by refine ⟨Tryz.func223,by kernel_rfl,by kernel_rfl,by kernel_rfl,by kernel_rfl,?_,vN,by kernel_rfl⟩;constructor<;>first|exact ⟨by kernel_rfl,by kernel_rfl,by kernel_rfl⟩|kernel_rfl
theorem ac1 {g:GT}(h:SG g):SG (bt 223 qz g):=h.Hf (λ_=>rfl) (λms r hr=>by obtain ⟨xs,i,j,rfl,rfl,h1,h2⟩:=D5 hr;exact MZ (P:=Tryz.prog) (c:=cx) (I:=gU 22) (E:=gU 98) afY nR afS (by kernel_rfl) afU (by kernel_rfl) (by kernel_rfl) (by kernel_rfl) h1 h2)
theorem afZ:Jk Tryz.prog 225 25 3 4 126 248 Tryz.f225 (λk=>k) (iv Tryz.f225 iw) (OH (iv Tryz.f225 iw)):=by refine ⟨Tryz.func225,by kernel_rfl,by kernel_rfl,by kernel_rfl,by kernel_rfl,?_,vN,by kernel_rfl⟩;constructor<;>first|exact ⟨by kernel_rfl,by kernel_rfl,by kernel_rfl⟩|kernel_rfl
theorem ajf: ∀args w,(callFunc 248 args).run Tryz.prog w=((AT #[25,25] #[4] args).run Tryz.prog w).andThen λv w'=> .ok (.value v) w':=λargs w=>run_callFunc_extern Tryz.func248 (by kernel_rfl) (by kernel_rfl) (by kernel_rfl) (e:=AT #[25,25] #[4]) (by kernel_rfl) args w
theorem ac2 {g:GT}(h:SG g):SG (bt 225 (j8 24) g):=h.Hf (λ_=>rfl) (λms r hr=>by obtain ⟨xs,ys,i,rfl,rfl,h1,h2,h3⟩:=xP hr;exact Fp (P:=Tryz.prog) (c:=cx) (I:=gU 25) (E:=gU 126) afZ nR afT (by kernel_rfl) aah (IN (by kernel_rfl)) (by kernel_rfl) (by kernel_rfl) (by kernel_rfl) (by kernel_rfl) ajf h1 h2 (by rw [show (gU 126).bytes=24 by kernel_rfl];exact h3))
theorem ac3 {g:GT}(h:SG g):SG (bt 226 (gn 3 24) g):=h.Hf (λ_=>rfl) (λms r hr=>by obtain ⟨xs,rfl,rfl,h1,h2⟩:=uZ hr;exact DR (P:=Tryz.prog) (c:=cx) (f:=226) (fn:=Tryz.f226) (t:=25) (I:=gU 25) (E:=gU 126) (i0:=0) (i1:=1) (i2:=2) (i3:=3) (oA:=iv Tryz.f226 iw 0) (oB:=iv Tryz.f226 iw 1) (oC:=iv Tryz.f226 iw 2) (oD:=iv Tryz.f226 iw 3) (oE:=iv Tryz.f226 iw 4) (oF:=iv Tryz.f226 iw 5) (oG:=iv Tryz.f226 iw 6) (oH:=iv Tryz.f226 iw 7) nR afT (by kernel_rfl) aah (IN (by kernel_rfl)) (by kernel_rfl) (by kernel_rfl) Tryz.func226 (by kernel_rfl) (by kernel_rfl) (by kernel_rfl) (by kernel_rfl) ⟨by kernel_rfl,by kernel_rfl,by kernel_rfl⟩ ⟨by kernel_rfl,by kernel_rfl,by kernel_rfl⟩ ⟨by kernel_rfl,by kernel_rfl,by kernel_rfl⟩ ⟨by kernel_rfl,by kernel_rfl,by kernel_rfl⟩ ⟨by kernel_rfl,by kernel_rfl,by kernel_rfl⟩ ⟨by kernel_rfl,by kernel_rfl,by kernel_rfl⟩ ⟨by kernel_rfl,by kernel_rfl,by kernel_rfl⟩ ⟨by kernel_rfl,by kernel_rfl,by kernel_rfl⟩ (by rw [show (gU 126).size=3 by kernel_rfl];exact h1) (by rw [show (gU 126).bytes=24 by kernel_rfl];exact h2))
theorem af0:Qn Tryz.prog 227 25 3 126 Tryz.f227 (λk=>k) (iv Tryz.f227 iw):=by refine ⟨Tryz.func227,by kernel_rfl,by kernel_rfl,by kernel_rfl,by kernel_rfl,?_,vN,by kernel_rfl⟩;constructor<;>first|exact ⟨by kernel_rfl,by kernel_rfl,by kernel_rfl⟩|kernel_rfl
theorem ac4 {g:GT}(h:SG g):SG (bt 227 qz g):=h.Hf (λ_=>rfl) (λms r hr=>by obtain ⟨xs,i,j,rfl,rfl,h1,h2⟩:=D5 hr;exact MZ (P:=Tryz.prog) (c:=cx) (I:=gU 25) (E:=gU 126) af0 nR afT (by kernel_rfl) aah (by kernel_rfl) (by kernel_rfl) (by kernel_rfl) h1 h2)
def H61:GT:=bt 61 (gn 6 72) (λ_ _=>none)
theorem aai:SG H61:=afV (jE.none _ _)
def H63:GT:=bt 63 (j8 72) H61
theorem aaj:SG H63:=afW aai
def ajg:GT:=bt 116 (gn 3 32) H63
theorem Wf:SG ajg:=acY aaj
def ajh:GT:=bt 194 As ajg
theorem Wg:SG ajh:=acV Wf
def aji:GT:=bt 218 (j8 48) ajh
theorem Wh:SG aji:=acZ Wg
def ajj:GT:=bt 219 (gn 4 48) aji
theorem Wi:SG ajj:=ac0 Wh
def ajk:GT:=bt 223 qz ajj
theorem Wj:SG ajk:=ac1 Wi
def ajl:GT:=bt 225 (j8 24) ajk
theorem Wk:SG ajl:=ac2 Wj
def ajm:GT:=bt 226 (gn 3 24) ajl
theorem Wl:SG ajm:=ac3 Wk
def ajn:GT:=bt 227 qz ajm
theorem Wm:SG ajn:=ac4 Wl
def ajo:GT:=bt 235 JB ajn
theorem Wn:SG ajo:=acW Wm
def ajp:GT:=bt 238 ta ajo
theorem Wo:SG ajp:=acX Wn
theorem KZ {g:GT}(s:SG g)(bR:List (List Kd))(par:List (Nat×Nat))(tn:Nat)(bs fl:List Nat)(fz ord:List (Nat×List Nat))(EU HD Gg:List (Nat×qQ))(dyn:List Nat){n:Nat}{fn:Func}{F:List MV->Option MV}(hf:Tryz.prog.funcs[n]? =some fn)(hh:MU (UK g par tn bs fl fz ord EU HD Gg dyn) n fn bR=true)(hF: ∀{ms r},F ms=some r->Mj (UK g par tn bs fl fz ord EU HD Gg dyn) bR none fn ms=some r):SG (bt n F g):=s.fn (c':=UK g par tn bs fl fz ord EU HD Gg dyn) ⟨rfl,rfl,rfl,rfl,rfl,rfl,rfl,rfl,rfl⟩ rfl nR UD UI UL vN HV hf hh (λ_=>rfl) (fresh:=none) rfl hF
theorem o6 {g:GT}(s:SG g)(bR:List (List Kd))(tn:Nat)(EU HD Gg:List (Nat×qQ)){n:Nat}{fn:Func}{F:List MV->Option MV}(hf:Tryz.prog.funcs[n]? =some fn)(hh:MU (UK g [] tn [] [] [] [] EU HD Gg []) n fn bR=true)(hF: ∀{ms r},F ms=some r->Mj (UK g [] tn [] [] [] [] EU HD Gg []) bR none fn ms=some r):SG (bt n F g):=KZ s bR [] tn [] [] [] [] EU HD Gg [] hf hh hF
theorem Rk {g:GT}(s:SG g)(pos:Nat)(ks:List LK)(bR:List (List Kd))(par:List (Nat×Nat))(tn:Nat)(bs fl:List Nat)(fz ord:List (Nat×List Nat))(EU HD Gg:List (Nat×qQ))(dyn:List Nat){n:Nat}{fn:Func}{F:List MV->Option MV}(hf:Tryz.prog.funcs[n]? =some fn)(hs:cx.sig n=some (pos,ks))(hh:Ua (UK g par tn bs fl fz ord EU HD Gg dyn) n fn bR=true)(hF: ∀{ms r},F ms=some r->Mi (UK g par tn bs fl fz ord EU HD Gg dyn) bR pos ks fn ms=some r):SG (bt n F g):=s.Rk nR UD UI UL vN HV hf hs (λ_=>rfl) λh=>⟨UK g par tn bs fl fz ord EU HD Gg dyn,⟨rfl,rfl,rfl,rfl,rfl,rfl,rfl,rfl,rfl⟩,rfl,hh,hF h⟩
theorem fnF {g:GT}(s:SG g)(ty:Nat)(bR:List (List Kd))(par:List (Nat×Nat))(tn:Nat)(bs fl:List Nat)(fz ord:List (Nat×List Nat))(EU HD Gg:List (Nat×qQ))(dyn:List Nat){n:Nat}{fn:Func}{F:List MV->Option MV}(hf:Tryz.prog.funcs[n]? =some fn)(hh:MU (UK g par tn bs fl fz ord EU HD Gg dyn) n fn bR=true)(Ip:Jh (UK g par tn bs fl fz ord EU HD Gg dyn) n fn (some ty)=true)(hF: ∀{ms r},F ms=some r->Mj (UK g par tn bs fl fz ord EU HD Gg dyn) bR (some ty) fn ms=some r):SG (bt n F g):=s.fn (c':=UK g par tn bs fl fz ord EU HD Gg dyn) ⟨rfl,rfl,rfl,rfl,rfl,rfl,rfl,rfl,rfl⟩ rfl nR UD UI UL vN HV hf hh (λ_=>rfl) Ip hF
abbrev Wp (d:List MV->Option MV):List MV->Option MV:=λms=>match ms with|[.cell (.func off a0)]=>(match AI off 0 with|true=>d a0|false=>none)|_=>none
theorem tz {d:List MV->Option MV}{B:List MV->Option MV}(h: ∀a0,B [.cell (.func 0 a0)]=d a0){ms:List MV}{r:MV}(e:Wp d ms=some r):B ms=some r:=by
 unfold Wp at e;split at e
 ·rename_i off a0;cases ho:AI off 0 with
  |true=>have:=No ho;subst this;exact (h _).trans e
  |false=>rw [ho] at e;cases e
 ·cases e
abbrev cl2 (d:List MV->MV->Option MV):List MV->Option MV:=λms=>match ms with|[.cell (.func off a0),a1]=>(match AI off 0 with|true=>d a0 a1|false=>none)|_=>none
theorem aak {d:List MV->MV->Option MV}{B:List MV->Option MV}(h: ∀a0 a1,B [.cell (.func 0 a0),a1]=d a0 a1){ms:List MV}{r:MV}(e:cl2 d ms=some r):B ms=some r:=by
 unfold cl2 at e;split at e
 ·rename_i off a0 a1;cases ho:AI off 0 with
  |true=>have:=No ho;subst this;exact (h _ _).trans e
  |false=>rw [ho] at e;cases e
 ·cases e
def Bp (lA:MV):Option MV:=gL lA λCA=>
 bd (Loop (λjv=>
 gC jv λm kf=>
 gI .i64 m λi=>
 gN kf<|
 cn CA λlen=>
 bM (decide (i<(len:Int))) (
 bd (
 bM (decide (i=30)) (
 some [.b true]) (
 idx CA i λy=>
 gA y λcs=>
 eW cs λClient Seq Kind Path Value Version Session Span=>
 bM (decide ((200:Int)<(Path.length:Int))) (
 some [.b true]) (
 idx CA i λy1=>
 gA y1 λmK=>
 eW mK λiX Aw QE ot kg dM Ax Ef=>
 some [.b (decide ((1100:Int)<(kg.length:Int)))]))) λvs=>
 gC vs λm17 aal=>
 gB m17 λx=>
 gN aal<|
 bM x (
 some (.inr (1,[.b false]))) (
 some (.inl [.i .i64 (bB .i64 (i+1))]))) (
 some (.inr (2,[])))) [.i .i64 0]) λp=>
 bM (AI p.1 2) (
 gN p.2<|
 some (.b true)) (
 cQ (AI p.1 1)<|
 gC p.2 λm18 ajq=>
 gB m18 λx1=>
 gN ajq<|
 some (.b x1))
def Na:GT:=bt 39 (r8 Bp) ajp
theorem Lz:SG Na:=o6 Wo [] 30 [(4,⟨[0,3],[],[],[(0,[(29,.sc (.k .b))])],[]⟩)] [] [(2,⟨[0],[],[(3,.sc (.k (.i .i64)))],[(1,[(2,.sc (.k .b))]),(2,[])],[]⟩)] Tryz.func39 (by kernel_rfl) (eN (λ_=>by kernel_rfl))
def Bq:Option MV:=some (.agg [.list ([.agg (rP ([47]:List UInt8) ([]:List UInt8) 0 0)]:List MV)])
def Nb:GT:=bt 71 (SL Bq) Na
theorem LA:SG Nb:=o6 Lz [] 4 [] [] [] Tryz.func71 (by kernel_rfl) (Eb (by kernel_rfl))
def Br:Option MV:=some (.agg [.i .i64 0,.list ([]:List MV)])
def Nc:GT:=bt 72 (SL Br) Nb
theorem LB:SG Nc:=o6 LA [] 2 [] [] [] Tryz.func72 (by kernel_rfl) (Eb (by kernel_rfl))
def Bs:Option MV:=bd (Bq) λrA=>
 gA rA λcs=>
 gC cs λm jv=>
 gL m λL=>
 gN jv<|
 bd (Br) λaB=>
 gA aB λmK=>
 Xe mK λjH L1=>
 some (.agg (mR L jH L1 ([]:List MV) ([]:List MV)))
def Nd:GT:=bt 26 (SL Bs) Nc
theorem LC:SG Nd:=o6 LB [] 4 [] [] [] Tryz.func26 (by kernel_rfl) (Eb (by kernel_rfl))
def nB (o:MV):Option MV:=gA o λcs=>
 eW cs λClient Seq Kind Path Value Version Session Span=>
 bM (decide (Kind=1)) (
 some (.agg (cv Client Seq Kind Path Value 0 Session 0))) (
 bd (
 bM (decide (Kind=2)) (
 some (0,[.b (decide (Kind=2))])) (
 bd (
 bM (decide (Kind=5)) (
 some (0,[.b (decide (Kind=5))])) (
 bd (
 bM (decide (Kind=10)) (
 some (0,[.b (decide (Kind=10))])) (
 some (0,[.b (decide (Kind=11))]))) λp2=>
 cQ (AI p2.1 0)<|
 gC p2.2 λm8 xV=>
 gB m8 λx=>
 gN xV<|
 some (0,[.b x]))) λp1=>
 cQ (AI p1.1 0)<|
 gC p1.2 λm9 Fx=>
 gB m9 λx1=>
 gN Fx<|
 some (0,[.b x1]))) λp=>
 cQ (AI p.1 0)<|
 gC p.2 λSP Ay=>
 gB SP λx2=>
 gN Ay<|
 bM x2 (
 some (.agg (cv Client Seq Kind Path ([]:List UInt8) 0 0 0))) (
 bM (decide (Kind=3)) (
 some (.agg (cv Client Seq Kind Path Value Version 0 0))) (
 bM (decide (Kind=4)) (
 some (.agg (cv Client Seq Kind Path ([]:List UInt8) Version 0 0))) (
 bM (decide (Kind=6)) (
 some (.agg (cv Client Seq Kind ([]:List UInt8) ([]:List UInt8) 0 Session Span))) (
 bd (
 bM (decide (Kind=7)) (
 some (0,[.b (decide (Kind=7))])) (
 some (0,[.b (decide (Kind=8))]))) λp3=>
 cQ (AI p3.1 0)<|
 gC p3.2 λm11 wP=>
 gB m11 λx3=>
 gN wP<|
 bM x3 (
 some (.agg (cv Client Seq Kind ([]:List UInt8) ([]:List UInt8) 0 Session 0))) (
 bM (decide (Kind=9)) (
 some (.agg (cv Client Seq Kind ([]:List UInt8) ([]:List UInt8) 0 0 Span))) (
 some (.agg (cv Client Seq Kind ([]:List UInt8) ([]:List UInt8) 0 0 0)))))))))
def y4:GT:=bt 81 (r8 nB) Nd
theorem BK:SG y4:=KZ LC [] [] 62 [] [34,36,49] [(1,[1])] [(14,[0,1,2,3,4,5,6,7,8,9,10,11]),(17,[0,1,2,3,4,5,6,7])] [] [(12,⟨[1,2,3,12],[],[],[(0,[(26,.sc (.k .b))])],[]⟩),(7,⟨[1,2,3,12],[],[],[(0,[(15,.sc (.k .b))])],[]⟩),(6,⟨[1,2,3,12],[],[],[(0,[(15,.sc (.k .b))])],[]⟩),(5,⟨[1,2,3,12],[],[],[(0,[(15,.sc (.k .b))])],[]⟩)] [] [] Tryz.func81 (by kernel_rfl) (eN (λ_=>by kernel_rfl))
def sK (o:MV):Option MV:=gA o λcs=>
 eW cs λClient Seq Kind Path Value Version Session Span=>
 bd (
 bM (decide ((0:Int)<=Client)) (
 bM (decide (Client<=1000)) (
 bM (decide ((1:Int)<=Seq)) (
 some [.b (decide (Seq<=1000000000))]) (
 some [.b false])) (
 some [.b false])) (
 some [.b false])) λvs=>
 gC vs λm8 xV=>
 gB m8 λwho=>
 gN xV<|
 bd (
 bM who (
 bM (decide ((0:Int)<=Kind)) (
 bM (decide (Kind<=11)) (
 bM (decide ((Path.length:Int)<=100)) (
 bM (decide ((Value.length:Int)<=1000)) (
 bd (nB (.agg (cv Client Seq Kind Path Value Version Session Span))) λrA=>
 gA rA λmK=>
 eW mK λiX Aw QE ot kg dM Ax Ef=>
 some [.b ((decide (Client=iX))&&((decide (Seq=Aw))&&((decide (Kind=QE))&&((decide (Path=ot))&&((decide (Value=kg))&&((decide (Version=dM))&&((decide (Session=Ax))&&(decide (Span=Ef)))))))))]) (
 some [.b false])) (
 some [.b false])) (
 some [.b false])) (
 some [.b false])) (
 some [.b false])) λmX=>
 gC mX λm17 aam=>
 gB m17 λx=>
 gN aam<|
 some (.b x)
def Nf:GT:=bt 35 (r8 sK) y4
theorem LD:SG Nf:=KZ BK [] [] 51 [] [] [] [(2,[0,1,2,3,4,5,6,7,8,9,10,11,12,13,14,15,16,17,18,19,20,21,22,23,24,25,26,27,28,29])] [(2,⟨[1,3],[],[],[(0,[(2,.sc (.k .b))])],[]⟩),(1,⟨[1],[],[],[(0,[(3,.sc (.k .b))])],[]⟩)] [] [] [] Tryz.func35 (by kernel_rfl) (eN (λ_=>by kernel_rfl))
def xW (x:MV):Option MV:=gI .u64 x λx1=>
 bd (
 bM (decide ((4294967296:Int)<=x1)) (
 cQ (decide ((0:Int)<=32))<|
 some (0,[.i .u64 (IT x1 (2^min (sh 32) (AS .u64))),.i .i64 32])) (
 some (0,[.i .u64 x1,.i .i64 0]))) λp=>
 cQ (AI p.1 0)<|
 V9 .u64 .i64 p.2 λx2 n=>
 bd (
 bM (decide ((65536:Int)<=x2)) (
 cQ (decide ((0:Int)<=16))<|
 some (0,[.i .u64 (IT x2 (2^min (sh 16) (AS .u64))),.i .i64 (bB .i64 (n+16))])) (
 some (0,[.i .u64 x2,.i .i64 n]))) λp1=>
 cQ (AI p1.1 0)<|
 V9 .u64 .i64 p1.2 λx3 n1=>
 bd (
 bM (decide ((256:Int)<=x3)) (
 cQ (decide ((0:Int)<=8))<|
 some (0,[.i .u64 (IT x3 (2^min (sh 8) (AS .u64))),.i .i64 (bB .i64 (n1+8))])) (
 some (0,[.i .u64 x3,.i .i64 n1]))) λp2=>
 cQ (AI p2.1 0)<|
 V9 .u64 .i64 p2.2 λx4 n2=>
 cQ (decide ((0:Int)<=(bB .u8 x4)/\(bB .u8 x4)<(((([0,1,2,2,3,3,3,3,4,4,4,4,4,4,4,4,5,5,5,5,5,5,5,5,5,5,5,5,5,5,5,5,6,6,6,6,6,6,6,6,6,6,6,6,6,6,6,6,6,6,6,6,6,6,6,6,6,6,6,6,6,6,6,6]:List UInt8)++([7,7,7,7,7,7,7,7,7,7,7,7,7,7,7,7,7,7,7,7,7,7,7,7,7,7,7,7,7,7,7,7,7,7,7,7,7,7,7,7,7,7,7,7,7,7,7,7,7,7,7,7,7,7,7,7,7,7,7,7,7,7,7,7]:List UInt8))++(([8,8,8,8,8,8,8,8,8,8,8,8,8,8,8,8,8,8,8,8,8,8,8,8,8,8,8,8,8,8,8,8,8,8,8,8,8,8,8,8,8,8,8,8,8,8,8,8,8,8,8,8,8,8,8,8,8,8,8,8,8,8,8,8]:List UInt8)++([8,8,8,8,8,8,8,8,8,8,8,8,8,8,8,8,8,8,8,8,8,8,8,8,8,8,8,8,8,8,8,8,8,8,8,8,8,8,8,8,8,8,8,8,8,8,8,8,8,8,8,8,8,8,8,8,8,8,8,8,8,8,8,8]:List UInt8))).length:Int)))<|
 some (.i .i64 (bB .i64 (n2+(bB .i64 ((((([0,1,2,2,3,3,3,3,4,4,4,4,4,4,4,4,5,5,5,5,5,5,5,5,5,5,5,5,5,5,5,5,6,6,6,6,6,6,6,6,6,6,6,6,6,6,6,6,6,6,6,6,6,6,6,6,6,6,6,6,6,6,6,6]:List UInt8)++([7,7,7,7,7,7,7,7,7,7,7,7,7,7,7,7,7,7,7,7,7,7,7,7,7,7,7,7,7,7,7,7,7,7,7,7,7,7,7,7,7,7,7,7,7,7,7,7,7,7,7,7,7,7,7,7,7,7,7,7,7,7,7,7]:List UInt8))++(([8,8,8,8,8,8,8,8,8,8,8,8,8,8,8,8,8,8,8,8,8,8,8,8,8,8,8,8,8,8,8,8,8,8,8,8,8,8,8,8,8,8,8,8,8,8,8,8,8,8,8,8,8,8,8,8,8,8,8,8,8,8,8,8]:List UInt8)++([8,8,8,8,8,8,8,8,8,8,8,8,8,8,8,8,8,8,8,8,8,8,8,8,8,8,8,8,8,8,8,8,8,8,8,8,8,8,8,8,8,8,8,8,8,8,8,8,8,8,8,8,8,8,8,8,8,8,8,8,8,8,8,8]:List UInt8))).getD (sh (bB .u8 x4)) 0).toNat:Int)))))
def JL:GT:=bt 203 (r8 xW) Nf
theorem JM:SG JL:=o6 LD [] 25 [] [(8,⟨[],[],[],[(0,[(0,.sc (.k (.i .u64))),(2,.sc (.k (.i .i64)))])],[]⟩),(5,⟨[],[],[],[(0,[(0,.sc (.k (.i .u64))),(2,.sc (.k (.i .i64)))])],[]⟩),(2,⟨[],[],[],[(0,[(0,.sc (.k (.i .u64))),(2,.sc (.k (.i .i64)))])],[]⟩)] [] Tryz.func203 (by kernel_rfl) (eN (λ_=>by kernel_rfl))
def xX (n:MV):Option MV:=gI .u64 n λn1=>
 bd (xW (.i .u64 n1)) λrA=>
 gI .i64 rA λx=>
 cQ (!decide ((8:Int)=0))<|
 some (.i .i64 (bB .i64 (1+(bB .i64 (Int.tdiv (bB .i64 (x+7)) 8)))))
def JN:GT:=bt 147 (r8 xX) JL
theorem JO:SG JN:=o6 JM [] 8 [] [] [] Tryz.func147 (by kernel_rfl) (eN (λ_=>by kernel_rfl))
def nC (sA:MV):Option MV:=gL sA λoM=>
 cn oM λlen=>
 cn oM λfB=>
 cQ (decide ((len:Int)=(oM.length:Int)/\(fB:Int)=(oM.length:Int)))<|
 some (.clip oM)
def y5:GT:=bt 148 (r8 nC) JN
theorem BL:SG y5:=o6 JO [] 9 [] [] [] Tryz.func148 (by kernel_rfl) (eN (λ_=>by kernel_rfl))
def sL (b n:MV):Option MV:=gL b λb1=>
 gI .u64 n λn1=>
 bd (xX (.i .u64 n1)) λrA=>
 gI .i64 rA λx=>
 bd (nC (.list b1)) λaB=>
 gCl aB λxs=>
 cQ (pR 1 xs)<|
 cn xs λlen=>
 cn ([.i .u8 (bB .u8 (bB .i64 (x-1)))]:List MV) λfB=>
 cQ (decide (0<fB/\(len+fB) *1<=2^46))<|
 bd (Loop (λjv=>
 JK jv λout i=>
 bM (decide ((0:Int)<=i)) (
 cQ (decide ((0:Int)<=(bB .i64 (8 *i))))<|
 cn out λmi=>
 cn ([.i .u8 (bB .u8 (IT n1 (2^min (sh (bB .i64 (8 *i))) (AS .u64))))]:List MV) λAz=>
 cQ (decide ((mi+Az) *1<=2^46))<|
 some (.inl [.list (out++([.i .u8 (bB .u8 (IT n1 (2^min (sh (bB .i64 (8 *i))) (AS .u64))))]:List MV)),.i .i64 (bB .i64 (i-1))])) (
 some (.inr (2,[.list out])))) [.list (xs++([.i .u8 (bB .u8 (bB .i64 (x-1)))]:List MV)),.i .i64 (bB .i64 ((bB .i64 (x-1))-1))]) λp=>
 cQ (AI p.1 2)<|
 gC p.2 λm2 vP=>
 gL m2 λEg=>
 gN vP<|
 some (.fresh Eg)
def Ng:GT:=bt 86 (ga sL) y5
theorem LF:SG Ng:=fnF BL 5 [] [] 32 [15,29] [] [] [] [] [] [(4,⟨[1],[],[(6,.sc (.own 16 5 false)),(7,.sc (.k (.i .i64)))],[(2,[(6,.sc (.own 16 5 false))])],[]⟩)] [] Tryz.func86 (by kernel_rfl) (by kernel_rfl) (bE (λ_ _=>by kernel_rfl))
def tA (b sA:MV):Option MV:=gL b λb1=>
 gS sA λoM=>
 bd (sL (.list b1) (.i .u64 (bB .u64 (oM.length:Int)))) λrA=>
 gF rA λxs=>
 cn xs λlen=>
 cn (Ds oM) λfB=>
 cQ (decide ((len+fB) *1<=2^46))<|
 some (.fresh (xs++(Ds oM)))
def JP:GT:=bt 149 (ga tA) Ng
theorem JQ:SG JP:=fnF LF 5 [] [] 12 [] [] [] [] [] [] [] [] Tryz.func149 (by kernel_rfl) (by kernel_rfl) (bE (λ_ _=>by kernel_rfl))
def Bt (b n:MV):Option MV:=gL b λb1=>
 gI .i64 n λn1=>
 cQ (decide ((0:Int)<=1))<|
 cQ (decide ((0:Int)<=63))<|
 bd (sL (.list b1) (.i .u64 (Cf .u64 (bB .u64 ((bB .u64 n1) *2^min (sh 1) (AS .u64))) (bB .u64 (IT n1 (2^min (sh 63) (AS .i64))))))) λrA=>
 gF rA λxs=>
 some (.fresh xs)
def Nh:GT:=bt 204 (ga Bt) JP
theorem LG:SG Nh:=fnF JQ 5 [] [] 14 [] [] [] [] [] [] [] [] Tryz.func204 (by kernel_rfl) (by kernel_rfl) (bE (λ_ _=>by kernel_rfl))
def xY (b lA:MV):Option MV:=gL b λb1=>
 gL lA λCA=>
 cn CA λlen=>
 bd (Loop (λjv=>
 JK jv λb2 x=>
 bM (decide (x<(len:Int))) (
 idx CA x λy=>
 gI .i64 y λx1=>
 bd (Bt (.list b2) (.i .i64 x1)) λrA=>
 gF rA λxs=>
 some (.inl [.list xs,.i .i64 (bB .i64 (x+1))])) (
 some (.inr (2,[.list b2])))) [.list b1,.i .i64 0]) λp=>
 cQ (AI p.1 2)<|
 gC p.2 λm2 vP=>
 gL m2 λb3=>
 gN vP<|
 some (.list b3)
def JR:GT:=bt 150 (ga xY) Nh
theorem JS:SG JR:=KZ LG [] [] 18 [15] [] [] [] [] [] [(2,⟨[7,8],[],[(0,.sc (.k .l)),(9,.sc (.k (.i .i64)))],[(2,[(0,.sc (.k .l))])],[]⟩)] [] Tryz.func150 (by kernel_rfl) (bE (λ_ _=>by kernel_rfl))
def Bu (b o:MV):Option MV:=gL b λb1=>
 gA o λcs=>
 eW cs λClient Seq Kind Path Value Version Session Span=>
 bd (xY (.list b1) (.list ([.i .i64 Client,.i .i64 Seq,.i .i64 Kind,.i .i64 Version,.i .i64 Session,.i .i64 Span]:List MV))) λrA=>
 gL rA λx=>
 bd (tA (.list x) (.s Path)) λaB=>
 gF aB λxs=>
 bd (tA (.list xs) (.s Value)) λbK=>
 gF bK λJT=>
 some (.fresh JT)
def Ni:GT:=bt 87 (ga Bu) JR
theorem LH:SG Ni:=fnF JS 5 [] [] 26 [18] [] [] [(1,[0,1,2,3,4,5,6,7,8,9,10,11,12,15,16,18,19,13,14,17,20,21])] [] [] [] [] Tryz.func87 (by kernel_rfl) (by kernel_rfl) (bE (λ_ _=>by kernel_rfl))
def mj (lA:MV):Option MV:=gL lA λCA=>
 cn CA λlen=>
 bM (decide ((10:Int)<(len:Int))) (
 some (.bW [.s ([]:List UInt8),.i .i64 5])) (
 cn CA λfB=>
 bd (sL (.list ([]:List MV)) (.i .u64 (bB .u64 (fB:Int)))) λrA=>
 gF rA λxs=>
 cn CA λmi=>
 bd (Loop (λjv=>
 JK jv λb x=>
 bM (decide (x<(mi:Int))) (
 idx CA x λy=>
 gA y λcs=>
 eW cs λClient Seq Kind Path Value Version Session Span=>
 bd (sK (.agg (cv Client Seq Kind Path Value Version Session Span))) λaB=>
 gB aB λx1=>
 bM (!x1) (
 some (.inr (1,[.s ([]:List UInt8),.i .i64 1]))) (
 bd (Bu (.list b) (.agg (cv Client Seq Kind Path Value Version Session Span))) λbK=>
 gF bK λJT=>
 some (.inl [.list JT,.i .i64 (bB .i64 (x+1))]))) (
 some (.inr (2,[.list b])))) [.list xs,.i .i64 0]) λp=>
 bM (AI p.1 2) (
 gC p.2 λSP wP=>
 gL SP λb1=>
 gN wP<|
 K6 b1 λbs=>
 some (.bW [.s bs,.i .i64 0])) (
 cQ (AI p.1 1)<|
 gC p.2 λm11 aan=>
 gS m11 λx2=>
 gC aan λm12 JU=>
 gI .i64 m12 λx3=>
 gN JU<|
 some (.bW [.s x2,.i .i64 x3])))
def Eh:GT:=bt 41 (r8 mj) Ni
theorem Fy:SG Eh:=o6 LH [] 29 [] [] [(5,⟨[14,15],[],[(4,.sc (.own 13 5 true)),(16,.sc (.k (.i .i64)))],[(1,[(2,.sc (.k .s)),(3,.sc (.k (.i .i64)))]),(2,[(4,.sc (.own 13 5 true))])],[13,25]⟩)] Tryz.func41 (by kernel_rfl) (eN (λ_=>by kernel_rfl))
def qh (b:MV):Option MV:=gL b λb1=>
 cn b1 λlen=>
 bM (decide ((len:Int)=0)) (
 some (.bW [.i .u64 0,.list ([]:List MV),.i .i64 2])) (
 idx b1 0 λy=>
 gI .u8 y λx=>
 cQ (pR 1 b1)<|
 cn b1 λfB=>
 cQ (decide ((0:Int)<=1/\(1:Int)<=(fB:Int)/\(fB:Int)<=(fB:Int)))<|
 bd (
 bM (decide ((8:Int)<(bB .i64 x))) (
 some [.b true]) (
 bM (decide ((0:Int)<(bB .i64 x))) (
 cn (By (sh 1) (BY (sh (fB:Int)) b1)) λmi=>
 bM (decide ((0:Int)<(mi:Int))) (
 idx (By (sh 1) (BY (sh (fB:Int)) b1)) 0 λy1=>
 gI .u8 y1 λx1=>
 some [.b (decide (x1=0))]) (
 some [.b false])) (
 some [.b false]))) λvs=>
 gC vs λm jv=>
 gB m λx2=>
 gN jv<|
 bM x2 (
 some (.bW [.i .u64 0,.list ([]:List MV),.i .i64 3])) (
 cn (By (sh 1) (BY (sh (fB:Int)) b1)) λAz=>
 bM (decide ((Az:Int)<(bB .i64 x))) (
 some (.bW [.i .u64 0,.list ([]:List MV),.i .i64 2])) (
 cn (By (sh 1) (BY (sh (fB:Int)) b1)) λJV=>
 cQ (decide ((0:Int)<=0/\(0:Int)<=(bB .i64 x)/\(bB .i64 x)<=(JV:Int)))<|
 cn (By (sh 0) (BY (sh (bB .i64 x)) (By (sh 1) (BY (sh (fB:Int)) b1)))) λaf1=>
 bd (Loop (λkf=>
 V9 .u64 .i64 kf λn x3=>
 bM (decide (x3<(af1:Int))) (
 idx (By (sh 0) (BY (sh (bB .i64 x)) (By (sh 1) (BY (sh (fB:Int)) b1)))) x3 λy2=>
 gI .u8 y2 λx4=>
 cQ (decide ((0:Int)<=8))<|
 some (.inl [.i .u64 (bOr .u64 (bB .u64 (n *2^min (sh 8) (AS .u64))) (bB .u64 x4)),.i .i64 (bB .i64 (x3+1))])) (
 some (.inr (3,[.i .u64 n])))) [.i .u64 0,.i .i64 0]) λp=>
 cQ (AI p.1 3)<|
 gC p.2 λm3 vQ=>
 gI .u64 m3 λn1=>
 gN vQ<|
 cQ (pR 1 (By (sh 1) (BY (sh (fB:Int)) b1)))<|
 cn (By (sh 1) (BY (sh (fB:Int)) b1)) λWq=>
 cQ (decide ((0:Int)<=(bB .i64 x)/\(bB .i64 x)<=(Wq:Int)/\(Wq:Int)<=(Wq:Int)))<|
 some (.bW [.i .u64 n1,.list (By (sh (bB .i64 x)) (BY (sh (Wq:Int)) (By (sh 1) (BY (sh (fB:Int)) b1)))),.i .i64 0]))))
def JW:GT:=bt 88 (r8 qh) Eh
theorem JX:SG JW:=KZ Fy [] [] 60 [] [] [] [(3,[0,1,2,3,4,5,6,7]),(14,[0,1,2,3,4,5,6])] [(4,⟨[5,6],[],[],[(0,[(19,.sc (.k .b))])],[]⟩)] [] [(10,⟨[5,6,44,45],[],[(7,.sc (.k (.i .u64))),(46,.sc (.k (.i .i64)))],[(3,[(7,.sc (.k (.i .u64)))])],[]⟩)] [] Tryz.func88 (by kernel_rfl) (eN (λ_=>by kernel_rfl))
def qF (b:MV):Option MV:=gL b λb1=>
 bd (qh (.list b1)) λrA=>
 gT rA λvs=>
 gC vs λm jv=>
 gI .u64 m λx=>
 JK jv λx1 x2=>
 cQ (decide ((0:Int)<=1))<|
 some (.bW [.i .i64 (Cf .i64 (bB .i64 (IT x (2^min (sh 1) (AS .u64)))) (bB .i64 (0-(bB .i64 (H0 .u64 x 1))))),.list x1,.i .i64 x2])
def Ca:GT:=bt 205 (r8 qF) JW
theorem Ei:SG Ca:=o6 JX [] 24 [] [] [] Tryz.func205 (by kernel_rfl) (eN (λ_=>by kernel_rfl))
def o7 (b most:MV):Option MV:=gL b λb1=>
 gI .i64 most λajr=>
 bd (qh (.list b1)) λrA=>
 gT rA λvs=>
 gC vs λm jv=>
 gI .u64 m λx=>
 JK jv λx1 x2=>
 bM (!decide (x2=0)) (
 some (.bW [.s ([]:List UInt8),.list ([]:List MV),.i .i64 x2])) (
 bM (decide ((bB .u64 (imax ajr 0))<x)) (
 some (.bW [.s ([]:List UInt8),.list ([]:List MV),.i .i64 5])) (
 cn x1 λlen=>
 bM (decide ((bB .u64 (len:Int))<x)) (
 some (.bW [.s ([]:List UInt8),.list ([]:List MV),.i .i64 2])) (
 cn x1 λfB=>
 cQ (decide ((0:Int)<=0/\(0:Int)<=x/\x<=(fB:Int)))<|
 K6 (By (sh 0) (BY (sh x) x1)) λbs=>
 cQ (pR 1 x1)<|
 cn x1 λmi=>
 cQ (decide ((0:Int)<=x/\x<=(mi:Int)/\(mi:Int)<=(mi:Int)))<|
 some (.bW [.s bs,.list (By (sh x) (BY (sh (mi:Int)) x1)),.i .i64 0]))))
def ca:GT:=bt 206 (ga o7) Ca
theorem tC:SG ca:=KZ Ei [] [] 39 [] [] [] [(8,[0,1,2,3,4,5,6,7,8,9])] [] [] [] [] Tryz.func206 (by kernel_rfl) (bE (λ_ _=>by kernel_rfl))
def takeN:Xd:=⟨35,152,54,229,227,291,231,233,3,9,4⟩
def y6:TkF:=⟨205,206,35⟩
def aao:Ctx:=UK ca [] 47 [] [36,42,46] [] [] [] [] [] []
theorem af2:Aq Tryz.prog aao ca y6 takeN 89 151 152 Tryz.f89 (λk=>k) (iv Tryz.f89 iw) where
 hT:=nR
 key:=λ_=>rfl
 snd:=λf ms r h=>fh.oL (c:=cx) (c':=aao) ⟨rfl,rfl,rfl,rfl,rfl,rfl,rfl,rfl,rfl⟩ (tC.all f ms r h)
 gv:=⟨by kernel_rfl,by kernel_rfl,by kernel_rfl⟩
 tyO:=⟨gU 35,by kernel_rfl,by kernel_rfl,by kernel_rfl,by kernel_rfl⟩
 tyR:=⟨gU 229,by kernel_rfl,by kernel_rfl,by kernel_rfl,by kernel_rfl⟩
 tyY:=⟨gU 152,by kernel_rfl,by kernel_rfl,by kernel_rfl⟩
 tye:=⟨gU 54,by kernel_rfl,by kernel_rfl,by kernel_rfl⟩
 tyi:=⟨gU 3,by kernel_rfl,by kernel_rfl,by kernel_rfl⟩
 tyS:=⟨gU 9,by kernel_rfl,by kernel_rfl,by kernel_rfl⟩
 tyI:=⟨gU 231,by kernel_rfl,by kernel_rfl,by kernel_rfl⟩
 acy:=by kernel_rfl
 pos:=Tryz.func89
 name:=by kernel_rfl
 tmps:=by kernel_rfl
 res:=by kernel_rfl
 body:=by kernel_rfl
 ops:=by constructor<;>exact ⟨by kernel_rfl,by kernel_rfl,by kernel_rfl⟩
 ints:=⟨Tryz.f151,λk=>k,iv Tryz.f151 iw,⟨Tryz.func151,by kernel_rfl,by kernel_rfl,by kernel_rfl,by kernel_rfl,by constructor<;>exact ⟨by kernel_rfl,by kernel_rfl,by kernel_rfl⟩⟩⟩
 text:=⟨Tryz.f152,λk=>k,iv Tryz.f152 iw,⟨Tryz.func152,by kernel_rfl,by kernel_rfl,by kernel_rfl,by kernel_rfl,by constructor<;>exact ⟨by kernel_rfl,by kernel_rfl,by kernel_rfl⟩⟩⟩
 Zl:=vN
 d7:=by kernel_rfl
 d10:=by kernel_rfl
 s35:=by kernel_rfl
 s47:=by kernel_rfl
 s51:=by kernel_rfl
 m38:=by kernel_rfl
 m53:=by kernel_rfl
 gvF:=by kernel_rfl
 tyL:=⟨gU 291,by kernel_rfl,by kernel_rfl⟩
 blR:=λ_ _ _=>by kernel_rfl
 blO:=by kernel_rfl
def CB (a:MV):Option MV:=Uy ca y6 [a]
def JY:GT:=bt 89 (r8 CB) ca
theorem JZ:SG JY:=tC.add λf ms r hk hr=>by have hk:f=89:=hk;subst hk;exact fh.oL (c:=aao) (c':=cx) ⟨rfl,rfl,rfl,rfl,rfl,rfl,rfl,rfl,rfl⟩ (acF af2 (eN (B:=Uy ca y6) (λ_=>rfl) hr))
def kh (sA:MV):Option MV:=gS sA λoM=>
 bd (qh (.list (Ds oM))) λrA=>
 gT rA λvs=>
 gC vs λm jv=>
 gI .u64 m λx=>
 JK jv λx1 x2=>
 bd (
 bM (!decide (x2=0)) (
 some [.b true]) (
 some [.b (decide ((10:Int)<x))])) λmX=>
 gC mX λm3 vP=>
 gB m3 λx3=>
 gN vP<|
 bM x3 (
 some (.bW [.list ([]:List MV),.i .i64 3])) (
 cQ (decide ((0:Int)<=x/\x=x/\x *80<=2^46))<|
 cn (aar (sh x) (.agg (cv 0 0 0 ([]:List UInt8) ([]:List UInt8) 0 0 0))) λlen=>
 bd (Loop (λvQ=>
 gC vQ λm4 xZ=>
 gL m4 λb=>
 JK xZ λout x4=>
 bM (decide (x4<(len:Int))) (
 bd (CB (.list b)) λaB=>
 gT aB λuq=>
 gC uq λm7 xV=>
 gA m7 λcs=>
 eW cs λClient Seq Kind Path Value Version Session Span=>
 JK xV λx5 x6=>
 idx out x4 λy=>
 gA y λmK=>
 eW mK λiX Aw QE ot kg dM Ax Ef=>
 bM (!decide (x6=0)) (
 some (.inr (1,[.list ([]:List MV),.i .i64 3]))) (
 some (.inl [.list x5,.list (out.set (sh x4) (.agg (cv Client Seq Kind Path Value Version Session Span))),.i .i64 (bB .i64 (x4+1))]))) (
 some (.inr (2,[.list b,.list out])))) [.list x1,.list (aar (sh x) (.agg (cv 0 0 0 ([]:List UInt8) ([]:List UInt8) 0 0 0))),.i .i64 0]) λp=>
 bM (AI p.1 2) (
 gC p.2 λm26 aap=>
 gL m26 λb1=>
 gC aap λm27 QF=>
 gL m27 λEg=>
 gN QF<|
 cn b1 λfB=>
 bM (decide ((0:Int)<(fB:Int))) (
 some (.bW [.list ([]:List MV),.i .i64 3])) (
 some (.bW [.list Eg,.i .i64 0]))) (
 cQ (AI p.1 1)<|
 oLI .i64 p.2 λx7 x8=>
 some (.bW [.list x7,.i .i64 x8])))
def Ej:GT:=bt 42 (r8 kh) JY
theorem Fz:SG Ej:=o6 JZ [] 45 [(2,⟨[4,5,6],[],[],[(0,[(21,.sc (.k .b))])],[]⟩)] [] [(6,⟨[25],[],[(5,.sc (.k .l)),(7,.sc (.own 23 35 false)),(26,.sc (.k (.i .i64)))],[(1,[(2,.sc (.k .l)),(3,.sc (.k (.i .i64)))]),(2,[(5,.sc (.k .l)),(7,.sc (.own 23 35 false))])],[]⟩)] Tryz.func42 (by kernel_rfl) (eN (λ_=>by kernel_rfl))
def o8 (x:MV):Option MV:=gI .i64 x λx1=>some (.b (!decide (x1=x1)))
def Ek:GT:=bt 183 (r8 o8) Ej
theorem FA:SG Ek:=o6 Fz [] 6 [] [] [] Tryz.func183 (by kernel_rfl) (eN (λ_=>by kernel_rfl))
def lO (x y:MV):Option MV:=gI .i64 x λx1=>
 gI .i64 y λy1=>
 bd (o8 (.i .i64 x1)) λrA=>
 gB rA λx2=>
 bd (o8 (.i .i64 y1)) λaB=>
 gB aB λx3=>
 bM x2 (
 bM x3 (
 some (.i .i64 0)) (
 some (.i .i64 (-1)))) (
 bM x3 (
 some (.i .i64 1)) (
 bM (decide (x1<y1)) (
 some (.i .i64 (-1))) (
 bM (decide (y1<x1)) (
 some (.i .i64 1)) (
 some (.i .i64 0)))))
def AA:GT:=bt 121 (ga lO) Ek
theorem CC:SG AA:=o6 FA [] 20 [] [] [] Tryz.func121 (by kernel_rfl) (bE (λ_ _=>by kernel_rfl))
def ki (x c9:MV):Option MV:=gA x λcs=>
 qE cs λClient Seq E Value Version Names=>
 gI .i64 c9 λEl=>
 bd (lO (.i .i64 Client) (.i .i64 El)) λrA=>
 gI .i64 rA λx1=>
 some (.i .i64 x1)
def nS:GT:=bt 120 (ga ki) AA
theorem ya:SG nS:=o6 CC [] 9 [] [] [] Tryz.func120 (by kernel_rfl) (bE (λ_ _=>by kernel_rfl))
def cC:GT:=nS
theorem fV (x0 x1:MV):cC 120 [x0,x1]=ki x0 x1:=by kernel_rfl
def cM (x target cmp:MV):Option MV:=gL x λx1=>
 gI .i64 target λu6=>
 gR cmp λQG=>
 cn x1 λlen=>
 bd (Loop (λjv=>
 jII jv λi j=>
 bM (decide (i<j)) (
 cQ (decide ((0:Int)<=1))<|
 idx x1 (bB .i64 (IT (bB .u64 (bB .i64 (i+j))) (2^min (sh 1) (AS .u64)))) λy=>
 gA y λcs=>
 qE cs λClient Seq E Value Version Names=>
 Ru QG λfn cap=>
 cQ (!gv fn)<|
 bd (cC fn ([.agg (ke Client Seq E Value Version Names),.i .i64 u6]++cap)) λrA=>
 gI .i64 rA λx2=>
 bd (
 bM (decide (x2<0)) (
 some (0,[.i .i64 (bB .i64 ((bB .i64 (IT (bB .u64 (bB .i64 (i+j))) (2^min (sh 1) (AS .u64))))+1)),.i .i64 j])) (
 some (0,[.i .i64 i,.i .i64 (bB .i64 (IT (bB .u64 (bB .i64 (i+j))) (2^min (sh 1) (AS .u64))))]))) λp1=>
 cQ (AI p1.1 0)<|
 V9 .i64 .i64 p1.2 λi1 j1=>
 some (.inl [.i .i64 i1,.i .i64 j1])) (
 some (.inr (2,[.i .i64 i])))) [.i .i64 0,.i .i64 (len:Int)]) λp=>
 cQ (AI p.1 2)<|
 gC p.2 λSP wP=>
 gI .i64 SP λi2=>
 gN wP<|
 bd (
 bM (decide (i2<(len:Int))) (
 idx x1 i2 λy1=>
 gA y1 λmK=>
 qE mK λiX Aw E1 kg dM aaq=>
 Ru QG λBJ uv=>
 cQ (!gv BJ)<|
 bd (cC BJ ([.agg (ke iX Aw E1 kg dM aaq),.i .i64 u6]++uv)) λaB=>
 gI .i64 aB λx3=>
 some [.i .i64 i2,.b (decide (x3=0))]) (
 some [.i .i64 i2,.b false])) λvs=>
 UF vs λx4 x5=>
 some (.bW [.i .i64 x4,.b x5])
def gd:GT:=bt 119 (OJ cM) nS
theorem kU:SG gd:=o6 ya [] 49 [(8,⟨[0,1,2,8,9],[],[],[(0,[(6,.sc (.k (.i .i64))),(7,.sc (.k .b))])],[]⟩)] [(6,⟨[0,1,2,8,11],[],[],[(0,[(9,.sc (.k (.i .i64))),(10,.sc (.k (.i .i64)))])],[]⟩)] [(3,⟨[0,1,2,8],[],[(9,.sc (.k (.i .i64))),(10,.sc (.k (.i .i64)))],[(2,[(9,.sc (.k (.i .i64)))])],[]⟩)] Tryz.func119 (by kernel_rfl) (xU (λ_ _ _=>by kernel_rfl))
def jN (rA c9:MV):Option MV:=gA rA λcs=>
 vO cs λmS jx rQ mT Seen=>
 gI .i64 c9 λEl=>
 bd (cM (.list Seen) (.i .i64 El) (.func 120 [])) λaB=>
 gT aB λvs=>
 UF vs λx x1=>
 some (.bW [.i .i64 x,.b x1])
def wQ:GT:=bt 62 (ga jN) gd
theorem AB:SG wQ:=o6 kU [] 12 [] [] [] Tryz.func62 (by kernel_rfl) (bE (λ_ _=>by kernel_rfl))
def yb (rA c9:MV):Option MV:=gA rA λcs=>
 vO cs λmS jx rQ mT Seen=>
 gI .i64 c9 λEl=>
 bd (jN (.agg (mR mS jx rQ mT Seen)) (.i .i64 El)) λaB=>
 gT aB λvs=>
 UF vs λx x1=>
 bM (!x1) (
 some (.bW [.agg (ke 0 0 0 ([]:List UInt8) 0 ([]:List MV)),.b false])) (
 idx Seen x λy=>
 gA y λmK=>
 qE mK λClient Seq E Value Version Names=>
 some (.bW [.agg (ke Client Seq E Value Version Names),.b true]))
def J0:GT:=bt 36 (ga yb) wQ
theorem J1:SG J0:=o6 AB [] 22 [] [] [] Tryz.func36 (by kernel_rfl) (bE (λ_ _=>by kernel_rfl))
def ml (rA o:MV):Option MV:=gA rA λcs=>
 vO cs λmS jx rQ mT Seen=>
 gA o λmK=>
 eW mK λClient Seq Kind Path Value Version Session Span=>
 bd (yb (.agg (mR mS jx rQ mT Seen)) (.i .i64 Client)) λaB=>
 gT aB λvs=>
 gC vs λm13 JU=>
 gA m13 λBE=>
 qE BE λiX Aw E kg dM Names=>
 gC JU λJ3 lP=>
 gB J3 λx=>
 gN lP<|
 bd (sK (.agg (cv Client Seq Kind Path Value Version Session Span))) λbK=>
 gB bK λx1=>
 bd (
 bM (!x1) (
 some (0,[.i .i64 0,.i .i64 0,.i .i64 0,.s ([]:List UInt8),.i .i64 0,.list ([]:List MV),.i .i64 Client,.i .i64 Seq,.i .i64 1,.s ([]:List UInt8),.i .i64 0,.list ([]:List MV)])) (
 bd (
 bM x (
 some [.b (decide (Aw=Seq))]) (
 some [.b false])) λmX=>
 gC mX λWr AD=>
 gB Wr λx2=>
 gN AD<|
 bM x2 (
 some (1,[.i .i64 iX,.i .i64 Aw,.i .i64 E,.s kg,.i .i64 dM,.list Names,.b true])) (
 bd (
 bM x (
 some [.b (decide (Seq<Aw))]) (
 some [.b false])) λuq=>
 gC uq λm22 wR=>
 gB m22 λx3=>
 gN wR<|
 bd (
 bM x3 (
 some (0,[.i .i64 0,.i .i64 0,.i .i64 0,.s ([]:List UInt8),.i .i64 0,.list ([]:List MV),.i .i64 Client,.i .i64 Seq,.i .i64 15,.s ([]:List UInt8),.i .i64 0,.list ([]:List MV)])) (
 bd (
 bM (!x) (
 cn Seen λlen=>
 some [.b (decide ((50:Int)<=(len:Int)))]) (
 some [.b false])) λvs3=>
 gC vs3 λm23 AE=>
 gB m23 λx4=>
 gN AE<|
 bM x4 (
 some (0,[.i .i64 0,.i .i64 0,.i .i64 0,.s ([]:List UInt8),.i .i64 0,.list ([]:List MV),.i .i64 Client,.i .i64 Seq,.i .i64 9,.s ([]:List UInt8),.i .i64 0,.list ([]:List MV)])) (
 some (1,[.i .i64 Client,.i .i64 Seq,.i .i64 0,.s ([]:List UInt8),.i .i64 0,.list ([]:List MV),.b false])))) λp1=>
 bM (AI p1.1 0) (
 gC p1.2 λm24 aat=>
 gI .i64 m24 λx5=>
 gC aat λm25 QH=>
 gI .i64 m25 λx6=>
 gC QH λm26 aau=>
 gI .i64 m26 λx7=>
 gC aau λm27 aap=>
 gS m27 λx8=>
 gC aap λm28 QF=>
 gI .i64 m28 λx9=>
 gC QF λm29 ajv=>
 gL m29 λHg=>
 qE ajv λJE JF JG JH JI JJ=>
 some (0,[.i .i64 x5,.i .i64 x6,.i .i64 x7,.s x8,.i .i64 x9,.list Hg,.i .i64 JE,.i .i64 JF,.i .i64 JG,.s JH,.i .i64 JI,.list JJ])) (
 cQ (AI p1.1 1)<|
 gC p1.2 λm36 aav=>
 gI .i64 m36 λLw=>
 gC aav λm37 aaw=>
 gI .i64 m37 λLx=>
 gC aaw λm38 aax=>
 gI .i64 m38 λLy=>
 gC aax λm39 aay=>
 gS m39 λUM=>
 gC aay λm40 aaz=>
 gI .i64 m40 λXf=>
 gC aaz λm41 QI=>
 gL m41 λx22=>
 gC QI λm42 QJ=>
 gB m42 λx23=>
 gN QJ<|
 some (1,[.i .i64 Lw,.i .i64 Lx,.i .i64 Ly,.s UM,.i .i64 Xf,.list x22,.b x23]))))) λp=>
 bM (AI p.1 0) (
 gC p.2 λm43 QK=>
 gI .i64 m43 λx24=>
 gC QK λm44 ajy=>
 gI .i64 m44 λx25=>
 gC ajy λm45 ajz=>
 gI .i64 m45 λx26=>
 gC ajz λm46 ajA=>
 gS m46 λx27=>
 gC ajA λm47 ajB=>
 gI .i64 m47 λx28=>
 gC ajB λm48 aaA=>
 gL m48 λx29=>
 qE aaA λx30 x31 x32 x33 x34 x35=>
 some (.bW [.agg (ke x30 x31 x32 x33 x34 x35),.b true])) (
 cQ (AI p.1 1)<|
 gC p.2 λm55 ajI=>
 gI .i64 m55 λx36=>
 gC ajI λm56 ajK=>
 gI .i64 m56 λx37=>
 gC ajK λm57 ajM=>
 gI .i64 m57 λx38=>
 gC ajM λm58 ajO=>
 gS m58 λx39=>
 gC ajO λm59 ajQ=>
 gI .i64 m59 λx40=>
 gC ajQ λm60 ajS=>
 gL m60 λx41=>
 gC ajS λm61 ajT=>
 gB m61 λx42=>
 gN ajT<|
 some (.bW [.agg (ke x36 x37 x38 x39 x40 x41),.b x42]))
def wS:GT:=bt 58 (ga ml) J0
theorem AF:SG wS:=o6 J1 [] 58 [(10,⟨[2,4,6,8],[],[],[(0,[(47,.sc (.k .b))])],[]⟩),(8,⟨[2,3,4,6,7,8],[],[],[(0,[(37,.sc (.k .b))])],[]⟩),(6,⟨[2,3,4,6,7,8],[],[],[(0,[(27,.sc (.k .b))])],[]⟩)] [(9,⟨[2,8],[],[],[(0,[(4,.box [.k (.i .i64),.k (.i .i64),.k (.i .i64),.k .s,.k (.i .i64),.k .l]),(6,.box [.k (.i .i64),.k (.i .i64),.k (.i .i64),.k .s,.k (.i .i64),.k .l])]),(1,[(4,.box [.k (.i .i64),.k (.i .i64),.k (.i .i64),.k .s,.k (.i .i64),.k .l]),(5,.sc (.k .b))])],[]⟩),(5,⟨[2,3,7,8],[],[],[(0,[(4,.box [.k (.i .i64),.k (.i .i64),.k (.i .i64),.k .s,.k (.i .i64),.k .l]),(6,.box [.k (.i .i64),.k (.i .i64),.k (.i .i64),.k .s,.k (.i .i64),.k .l])]),(1,[(4,.box [.k (.i .i64),.k (.i .i64),.k (.i .i64),.k .s,.k (.i .i64),.k .l]),(5,.sc (.k .b))])],[]⟩)] [] Tryz.func58 (by kernel_rfl) (bE (λ_ _=>by kernel_rfl))
def kj (w:List MV):Option MV:=aL w λcI bY dN cZ iq cN nk gh ej dA bU bI fR cJ mn xE dG bZ dH lA=>some (.dx (.bW []) (au cI bY dN cZ iq cN nk gh ej dA bU bI fR cJ mn xE dG bZ dH lA))
def tD:GT:=bt 105 (Wp kj) wS
theorem yc:SG tD:=Rk AF 0 jV [] [(0,1000000)] 2 [] [] [] [] [] [] [] [] Tryz.func105 (by kernel_rfl) (by kernel_rfl) (tz λ_=>by kernel_rfl)
def lg (x id:MV):Option MV:=gA x λcs=>
 Wd cs λId Span At=>
 gI .i64 id λRt=>
 bd (lO (.i .i64 Id) (.i .i64 Rt)) λrA=>
 gI .i64 rA λx1=>
 some (.i .i64 x1)
def o9:GT:=bt 144 (ga lg) tD
theorem zu:SG o9:=o6 yc [] 9 [] [] [] Tryz.func144 (by kernel_rfl) (bE (λ_ _=>by kernel_rfl))
def cf:GT:=o9
theorem fK (x0 x1:MV):cf 144 [x0,x1]=lg x0 x1:=by kernel_rfl
def cD (x target cmp:MV):Option MV:=gL x λx1=>
 gI .i64 target λu6=>
 gR cmp λQG=>
 cn x1 λlen=>
 bd (Loop (λjv=>
 jII jv λi j=>
 bM (decide (i<j)) (
 cQ (decide ((0:Int)<=1))<|
 idx x1 (bB .i64 (IT (bB .u64 (bB .i64 (i+j))) (2^min (sh 1) (AS .u64)))) λy=>
 gA y λcs=>
 Wd cs λId Span At=>
 Ru QG λfn cap=>
 cQ (!gv fn)<|
 bd (cf fn ([.agg [.i .i64 Id,.i .i64 Span,.i .i64 At],.i .i64 u6]++cap)) λrA=>
 gI .i64 rA λx2=>
 bd (
 bM (decide (x2<0)) (
 some (0,[.i .i64 (bB .i64 ((bB .i64 (IT (bB .u64 (bB .i64 (i+j))) (2^min (sh 1) (AS .u64))))+1)),.i .i64 j])) (
 some (0,[.i .i64 i,.i .i64 (bB .i64 (IT (bB .u64 (bB .i64 (i+j))) (2^min (sh 1) (AS .u64))))]))) λp1=>
 cQ (AI p1.1 0)<|
 V9 .i64 .i64 p1.2 λi1 j1=>
 some (.inl [.i .i64 i1,.i .i64 j1])) (
 some (.inr (2,[.i .i64 i])))) [.i .i64 0,.i .i64 (len:Int)]) λp=>
 cQ (AI p.1 2)<|
 gC p.2 λm7 xV=>
 gI .i64 m7 λi2=>
 gN xV<|
 bd (
 bM (decide (i2<(len:Int))) (
 idx x1 i2 λy1=>
 gA y1 λmK=>
 Wd mK λId1 Ef aaB=>
 Ru QG λBJ uv=>
 cQ (!gv BJ)<|
 bd (cf BJ ([.agg [.i .i64 Id1,.i .i64 Ef,.i .i64 aaB],.i .i64 u6]++uv)) λaB=>
 gI .i64 aB λx3=>
 some [.i .i64 i2,.b (decide (x3=0))]) (
 some [.i .i64 i2,.b false])) λvs=>
 UF vs λx4 x5=>
 some (.bW [.i .i64 x4,.b x5])
def fC:GT:=bt 143 (OJ cD) o9
theorem kl:SG fC:=o6 zu [] 49 [(8,⟨[0,1,2,8,9],[],[],[(0,[(6,.sc (.k (.i .i64))),(7,.sc (.k .b))])],[]⟩)] [(6,⟨[0,1,2,8,11],[],[],[(0,[(9,.sc (.k (.i .i64))),(10,.sc (.k (.i .i64)))])],[]⟩)] [(3,⟨[0,1,2,8],[],[(9,.sc (.k (.i .i64))),(10,.sc (.k (.i .i64)))],[(2,[(9,.sc (.k (.i .i64)))])],[]⟩)] Tryz.func143 (by kernel_rfl) (xU (λ_ _ _=>by kernel_rfl))
def fW (b id:MV):Option MV:=gA b λcs=>
 Xe cs λjH L=>
 gI .i64 id λRt=>
 bd (cD (.list L) (.i .i64 Rt) (.func 144 [])) λrA=>
 gT rA λvs=>
 UF vs λx x1=>
 some (.bW [.i .i64 x,.b x1])
def y7:GT:=bt 82 (ga fW) fC
theorem BM:SG y7:=o6 kl [] 12 [] [] [] Tryz.func82 (by kernel_rfl) (bE (λ_ _=>by kernel_rfl))
def Bv (b id:MV):Option MV:=gA b λcs=>
 Xe cs λjH L=>
 gI .i64 id λRt=>
 bd (fW (.agg [.i .i64 jH,.list L]) (.i .i64 Rt)) λrA=>
 gT rA λvs=>
 UF vs λx x1=>
 some (.b x1)
def Nj:GT:=bt 37 (ga Bv) y7
theorem LI:SG Nj:=o6 BM [] 14 [] [] [] Tryz.func37 (by kernel_rfl) (bE (λ_ _=>by kernel_rfl))
def ia (sA bx:MV):Option MV:=gS sA λoM=>
 gS bx λkH=>
 bd (
 bM (decide ((kH.length:Int)<=(oM.length:Int))) (
 cQ (decide ((0:Int)<=0/\(0:Int)<=(kH.length:Int)/\(kH.length:Int)<=(oM.length:Int)))<|
 some [.b (decide ((By (sh 0) (BY (sh (kH.length:Int)) oM))=kH))]) (
 some [.b false])) λvs=>
 gC vs λm jv=>
 gB m λx=>
 gN jv<|
 some (.b x)
def pN:GT:=bt 251 (ga ia) Nj
theorem uw:SG pN:=o6 LI [] 18 [(1,⟨[0,1],[],[],[(0,[(4,.sc (.k .b))])],[]⟩)] [] [] Tryz.func251 (by kernel_rfl) (bE (λ_ _=>by kernel_rfl))
def ib (sA bx:MV):Option MV:=gS sA λoM=>
 gS bx λkH=>
 bd (ia (.s oM) (.s kH)) λrA=>
 gB rA λx=>
 bM (!x) (
 some (.bW [.s oM,.b false])) (
 cQ (decide ((0:Int)<=(kH.length:Int)/\(kH.length:Int)<=(oM.length:Int)/\(oM.length:Int)<=(oM.length:Int)))<|
 some (.bW [.s (By (sh (kH.length:Int)) (BY (sh (oM.length:Int)) oM)),.b true]))
def pO:GT:=bt 232 (ga ib) pN
theorem ux:SG pO:=o6 uw [] 15 [] [] [] Tryz.func232 (by kernel_rfl) (bE (λ_ _=>by kernel_rfl))
def lh (sA bx:MV):Option MV:=gS sA λoM=>
 gS bx λkH=>
 bd (ib (.s oM) (.s kH)) λrA=>
 gT rA λvs=>
 gC vs λm jv=>
 gS m λx=>
 gC jv λm1 kf=>
 gB m1 λx1=>
 gN kf<|
 some (.bW [.s x,.b x1])
def u7:GT:=bt 193 (ga lh) pO
theorem zw:SG u7:=o6 ux [] 11 [] [] [] Tryz.func193 (by kernel_rfl) (bE (λ_ _=>by kernel_rfl))
def qG (c:MV):Option MV:=gI .i32 c λc1=>
 bd (ta [.s ([97,98,99,100,101,102,103,104,105,106,107,108,109,110,111,112,113,114,115,116,117,118,119,120,121,122,48,49,50,51,52,53,54,55,56,57,45,95]:List UInt8),.i .i32 c1]) λrA=>
 gB rA λx=>
 some (.b (!x))
def vR:GT:=bt 237 (r8 qG) u7
theorem Em:SG vR:=o6 zw [] 6 [] [] [] Tryz.func237 (by kernel_rfl) (eN (λ_=>by kernel_rfl))
def iY:GT:=vR
theorem ru (x0:MV):iY 237 [x0]=qG x0:=by kernel_rfl
def nD (sA f pM:MV):Option MV:=gS sA λoM=>
 gR f λf1=>
 gB pM λaf5=>
 bd (Loop (λjv=>
 gC jv λm kf=>
 gL m λes=>
 gN kf<|
 bM (RC es) (
 Ru f1 λfn cap=>
 cQ (!gv fn)<|
 bd (iY fn ([.i .i32 (Ch es)]++cap)) λrA=>
 gB rA λx=>
 bM (decide (x=af5)) (
 some (.inr (1,[.i .i64 (wj es)]))) (
 some (.inl [.list (EY es)]))) (
 some (.inr (2,[])))) [.list ([.s oM,.i .i64 0]:List MV)]) λp=>
 bM (AI p.1 2) (
 gN p.2<|
 some (.i .i64 (-1))) (
 cQ (AI p.1 1)<|
 gC p.2 λm1 qi=>
 gI .i64 m1 λx1=>
 gN qi<|
 some (.i .i64 x1))
def y8:GT:=bt 275 (OJ nD) vR
theorem BN:SG y8:=o6 Em [] 21 [] [] [(2,⟨[1,2],[],[(10,.mp ⟨true,[],true⟩)],[(1,[(6,.sc (.k (.i .i64)))]),(2,[])],[]⟩)] Tryz.func275 (by kernel_rfl) (xU (λ_ _ _=>by kernel_rfl))
def li (sA f:MV):Option MV:=gS sA λoM=>
 gR f λf1=>
 bd (nD (.s oM) f1 (.b true)) λrA=>
 gI .i64 rA λx=>
 some (.i .i64 x)
def u9:GT:=bt 262 (ga li) y8
theorem zx:SG u9:=o6 BN [] 8 [] [] [] Tryz.func262 (by kernel_rfl) (bE (λ_ _=>by kernel_rfl))
def iZ (sA f:MV):Option MV:=gS sA λoM=>
 gR f λf1=>
 bd (li (.s oM) f1) λrA=>
 gI .i64 rA λx=>
 some (.b (decide ((0:Int)<=x)))
def ra:GT:=bt 236 (ga iZ) u9
theorem vS:SG ra:=o6 zx [] 9 [] [] [] Tryz.func236 (by kernel_rfl) (bE (λ_ _=>by kernel_rfl))
def vc (sA:MV):Option MV:=gS sA λoM=>
 bd (
 bM (!decide (oM=([]:List UInt8))) (
 bM (decide ((oM.length:Int)<=30)) (
 bd (JB [.s oM,.s ([97,98,99,100,101,102,103,104,105,106,107,108,109,110,111,112,113,114,115,116,117,118,119,120,121,122,48,49,50,51,52,53,54,55,56,57,45,95]:List UInt8)]) λrA=>
 gS rA λx=>
 bM (decide (x=([]:List UInt8))) (
 bd (iZ (.s oM) (.func 237 [])) λaB=>
 gB aB λx1=>
 some [.b (!x1)]) (
 some [.b false])) (
 some [.b false])) (
 some [.b false])) λvs=>
 gC vs λm jv=>
 gB m λx2=>
 gN jv<|
 some (.b x2)
def GL:GT:=bt 197 (r8 vc) ra
theorem Hh:SG GL:=o6 vS [] 20 [(1,⟨[0],[],[],[(0,[(2,.sc (.k .b))])],[]⟩)] [] [] Tryz.func197 (by kernel_rfl) (eN (λ_=>by kernel_rfl))
def sf (sA:MV):Option MV:=gS sA λoM=>
 bd (vc (.s oM)) λrA=>
 gB rA λx=>
 some (.b (!x))
def yd:GT:=bt 196 (r8 sf) GL
theorem FB:SG yd:=o6 Hh [] 6 [] [] [] Tryz.func196 (by kernel_rfl) (eN (λ_=>by kernel_rfl))
def fa:GT:=yd
theorem nT (x0:MV):fa 196 [x0]=sf x0:=by kernel_rfl
def gq (sA f:MV):Option MV:=gL sA λoM=>
 gR f λf1=>
 cn oM λlen=>
 bd (Loop (λjv=>
 gC jv λm kf=>
 gI .i64 m λx=>
 gN kf<|
 bM (decide (x<(len:Int))) (
 idx oM x λy=>
 gS y λx1=>
 Ru f1 λfn cap=>
 cQ (!gv fn)<|
 bd (fa fn ([.s x1]++cap)) λrA=>
 gB rA λx2=>
 bM x2 (
 some (.inr (1,[.i .i64 x]))) (
 some (.inl [.i .i64 (bB .i64 (x+1))]))) (
 some (.inr (2,[])))) [.i .i64 0]) λp=>
 bM (AI p.1 2) (
 gN p.2<|
 some (.i .i64 (-1))) (
 cQ (AI p.1 1)<|
 gC p.2 λm1 qi=>
 gI .i64 m1 λx3=>
 gN qi<|
 some (.i .i64 x3))
def pa:GT:=bt 234 (ga gq) yd
theorem tE:SG pa:=o6 FB [] 19 [] [] [(2,⟨[0,1,7],[],[(8,.sc (.k (.i .i64)))],[(1,[(4,.sc (.k (.i .i64)))]),(2,[])],[]⟩)] Tryz.func234 (by kernel_rfl) (bE (λ_ _=>by kernel_rfl))
def eO (sA f:MV):Option MV:=gL sA λoM=>
 gR f λf1=>
 bd (gq (.list oM) f1) λrA=>
 gI .i64 rA λx=>
 some (.b (decide ((0:Int)<=x)))
def mF:GT:=bt 195 (ga eO) pa
theorem rb:SG mF:=o6 tE [] 9 [] [] [] Tryz.func195 (by kernel_rfl) (bE (λ_ _=>by kernel_rfl))
def km (p:MV):Option MV:=gS p λp1=>
 bd (lh (.s p1) (.s ([47]:List UInt8))) λrA=>
 gT rA λvs=>
 gC vs λm jv=>
 gS m λx=>
 gC jv λm1 kf=>
 gB m1 λx1=>
 gN kf<|
 bd (
 bM (!x1) (
 some [.b true]) (
 some [.b (decide ((100:Int)<(p1.length:Int)))])) λmX=>
 gC mX λm2 qi=>
 gB m2 λx2=>
 gN qi<|
 bM x2 (
 some (.bW [.list ([]:List MV),.b false])) (
 bM (decide (x=([]:List UInt8))) (
 some (.bW [.list ([]:List MV),.b true])) (
 bd (As [.s x,.s ([47]:List UInt8)]) λaB=>
 gF aB λxs=>
 bd (
 cn xs λlen=>
 bM (decide ((len:Int)<=8)) (
 bd (eO (.list xs) (.func 196 [])) λbK=>
 gB bK λx3=>
 some [.list xs,.b (!x3),.list xs]) (
 some [.list xs,.b false,.list xs])) λuq=>
 gC uq λm3 vP=>
 gL m3 λJT=>
 gC vP λm4 vQ=>
 gB m4 λx4=>
 gC vQ λm5 xZ=>
 gL m5 λlA=>
 gN xZ<|
 some (.bW [.list lA,.b x4])))
def J4:GT:=bt 137 (r8 km) mF
theorem J5:SG J4:=o6 rb [] 34 [(7,⟨[],[],[],[(0,[(2,.sc (.own 24 9 true)),(3,.sc (.k .b)),(6,.sc (.own 24 9 true))])],[24]⟩),(2,⟨[0,4,5],[],[],[(0,[(12,.sc (.k .b))])],[24]⟩)] [] [] Tryz.func137 (by kernel_rfl) (eN (λ_=>by kernel_rfl))
def kI (x:MV):Option MV:=gS x λx1=>some (.b (!decide (x1=x1)))
def y9:GT:=bt 264 (r8 kI) J4
theorem BO:SG y9:=o6 J5 [] 6 [] [] [] Tryz.func264 (by kernel_rfl) (eN (λ_=>by kernel_rfl))
def lj (x y:MV):Option MV:=gS x λx1=>
 gS y λy1=>
 bd (kI (.s x1)) λrA=>
 gB rA λx2=>
 bd (kI (.s y1)) λaB=>
 gB aB λx3=>
 bM x2 (
 bM x3 (
 some (.i .i64 0)) (
 some (.i .i64 (-1)))) (
 bM x3 (
 some (.i .i64 1)) (
 bM (aas x1 y1) (
 some (.i .i64 (-1))) (
 bM (!(aas x1 y1||decide (x1=y1))) (
 some (.i .i64 1)) (
 some (.i .i64 0)))))
def vd:GT:=bt 240 (ga lj) y9
theorem zy:SG vd:=o6 BO [] 20 [] [] [] Tryz.func240 (by kernel_rfl) (bE (λ_ _=>by kernel_rfl))
def ja (s1 s2:MV):Option MV:=gL s1 λSQ=>
 gL s2 λWs=>
 cn SQ λlen=>
 bd (Loop (λjv=>
 gC jv λm kf=>
 gI .i64 m λx=>
 gN kf<|
 bM (decide (x<(len:Int))) (
 idx SQ x λy=>
 gS y λx1=>
 cn Ws λfB=>
 bM (decide ((fB:Int)<=x)) (
 some (.inr (1,[.i .i64 1]))) (
 idx Ws x λy1=>
 gS y1 λx2=>
 bd (lj (.s x1) (.s x2)) λrA=>
 gI .i64 rA λx3=>
 bM (!decide (x3=0)) (
 some (.inr (1,[.i .i64 x3]))) (
 some (.inl [.i .i64 (bB .i64 (x+1))])))) (
 some (.inr (2,[])))) [.i .i64 0]) λp=>
 bM (AI p.1 2) (
 gN p.2<|
 cn SQ λmi=>
 cn Ws λAz=>
 bM (decide ((mi:Int)<(Az:Int))) (
 some (.i .i64 (-1))) (
 some (.i .i64 0))) (
 cQ (AI p.1 1)<|
 gC p.2 λm1 qi=>
 gI .i64 m1 λx4=>
 gN qi<|
 some (.i .i64 x4))
def rc:GT:=bt 202 (ga ja) vd
theorem vT:SG rc:=o6 zy [] 36 [] [] [(2,⟨[0,1,9,10],[],[(11,.sc (.k (.i .i64)))],[(1,[(4,.sc (.k (.i .i64)))]),(2,[])],[]⟩)] Tryz.func202 (by kernel_rfl) (bE (λ_ _=>by kernel_rfl))
def ye (p q:MV):Option MV:=gS p λp1=>
 gS q λq1=>
 bd (km (.s p1)) λrA=>
 gT rA λvs=>
 gC vs λm jv=>
 gL m λx=>
 gC jv λm1 kf=>
 gB m1 λx1=>
 gN kf<|
 bd (km (.s q1)) λaB=>
 gT aB λmX=>
 gC mX λm2 qi=>
 gL m2 λx2=>
 gC qi λm3 vP=>
 gB m3 λx3=>
 gN vP<|
 bd (
 bM x1 (
 bM x3 (
 bd (ja (.list x) (.list x2)) λbK=>
 gI .i64 bK λx4=>
 some [.b (decide (x4<0))]) (
 some [.b false])) (
 some [.b false])) λuq=>
 gC uq λm4 vQ=>
 gB m4 λx5=>
 gN vQ<|
 some (.b x5)
def J6:GT:=bt 146 (ga ye) rc
theorem J7:SG J6:=o6 vT [] 29 [(3,⟨[5,6,7,8],[],[],[(0,[(4,.sc (.k .b))])],[]⟩)] [] [] Tryz.func146 (by kernel_rfl) (bE (λ_ _=>by kernel_rfl))
def kn (n p:MV):Option MV:=gA n λcs=>
 tw cs λPath Value Version il=>
 gS p λp1=>
 bM (decide (Path=p1)) (
 some (.i .i64 0)) (
 bd (ye (.s Path) (.s p1)) λrA=>
 gB rA λx=>
 bM x (
 some (.i .i64 (-1))) (
 some (.i .i64 1)))
def nU:GT:=bt 245 (ga kn) J6
theorem yf:SG nU:=o6 J7 [] 15 [] [] [] Tryz.func245 (by kernel_rfl) (bE (λ_ _=>by kernel_rfl))
def cg:GT:=nU
theorem fD (x0 x1:MV):cg 245 [x0,x1]=kn x0 x1:=by kernel_rfl
def cE (x target cmp:MV):Option MV:=gL x λx1=>
 gS target λu6=>
 gR cmp λQG=>
 cn x1 λlen=>
 bd (Loop (λjv=>
 jII jv λi j=>
 bM (decide (i<j)) (
 cQ (decide ((0:Int)<=1))<|
 idx x1 (bB .i64 (IT (bB .u64 (bB .i64 (i+j))) (2^min (sh 1) (AS .u64)))) λy=>
 gA y λcs=>
 tw cs λPath Value Version il=>
 Ru QG λfn cap=>
 cQ (!gv fn)<|
 bd (cg fn ([.agg (rP Path Value Version il),.s u6]++cap)) λrA=>
 gI .i64 rA λx2=>
 bd (
 bM (decide (x2<0)) (
 some (0,[.i .i64 (bB .i64 ((bB .i64 (IT (bB .u64 (bB .i64 (i+j))) (2^min (sh 1) (AS .u64))))+1)),.i .i64 j])) (
 some (0,[.i .i64 i,.i .i64 (bB .i64 (IT (bB .u64 (bB .i64 (i+j))) (2^min (sh 1) (AS .u64))))]))) λp1=>
 cQ (AI p1.1 0)<|
 V9 .i64 .i64 p1.2 λi1 j1=>
 some (.inl [.i .i64 i1,.i .i64 j1])) (
 some (.inr (2,[.i .i64 i])))) [.i .i64 0,.i .i64 (len:Int)]) λp=>
 cQ (AI p.1 2)<|
 gC p.2 λm8 Fx=>
 gI .i64 m8 λi2=>
 gN Fx<|
 bd (
 bM (decide (i2<(len:Int))) (
 idx x1 i2 λy1=>
 gA y1 λmK=>
 tw mK λot kg dM J8=>
 Ru QG λBJ uv=>
 cQ (!gv BJ)<|
 bd (cg BJ ([.agg (rP ot kg dM J8),.s u6]++uv)) λaB=>
 gI .i64 aB λx3=>
 some [.i .i64 i2,.b (decide (x3=0))]) (
 some [.i .i64 i2,.b false])) λvs=>
 UF vs λx4 x5=>
 some (.bW [.i .i64 x4,.b x5])
def fF:GT:=bt 244 (OJ cE) nU
theorem ko:SG fF:=o6 yf [] 49 [(8,⟨[0,1,2,8,9],[],[],[(0,[(6,.sc (.k (.i .i64))),(7,.sc (.k .b))])],[]⟩)] [(6,⟨[0,1,2,8,11],[],[],[(0,[(9,.sc (.k (.i .i64))),(10,.sc (.k (.i .i64)))])],[]⟩)] [(3,⟨[0,1,2,8],[],[(9,.sc (.k (.i .i64))),(10,.sc (.k (.i .i64)))],[(2,[(9,.sc (.k (.i .i64)))])],[]⟩)] Tryz.func244 (by kernel_rfl) (xU (λ_ _ _=>by kernel_rfl))
def jO (sA p:MV):Option MV:=gA sA λcs=>
 gC cs λm jv=>
 gL m λL=>
 gN jv<|
 gS p λp1=>
 bd (cE (.list L) (.s p1) (.func 245 [])) λrA=>
 gT rA λvs=>
 UF vs λx x1=>
 some (.bW [.i .i64 x,.b x1])
def wT:GT:=bt 216 (ga jO) fF
theorem AG:SG wT:=o6 ko [] 12 [] [] [] Tryz.func216 (by kernel_rfl) (bE (λ_ _=>by kernel_rfl))
def lQ (p:MV):Option MV:=gS p λp1=>
 bd (km (.s p1)) λrA=>
 gT rA λvs=>
 gC vs λm jv=>
 gL m λx=>
 gC jv λm1 kf=>
 gB m1 λx1=>
 gN kf<|
 some (.b x1)
def J9:GT:=bt 73 (r8 lQ) wT
theorem Ka:SG J9:=o6 AG [] 11 [] [] [] Tryz.func73 (by kernel_rfl) (eN (λ_=>by kernel_rfl))
def ef (sA c:MV):Option MV:=gS sA λoM=>
 gI .u8 c λc1=>
 bd (Loop (λjv=>
 gC jv λm kf=>
 gI .i64 m λi=>
 gN kf<|
 bM (decide ((0:Int)<=i)) (
 cQ (decide ((0:Int)<=i/\i<(oM.length:Int)))<|
 bM (decide (((oM.getD (sh i) 0).toNat:Int)=c1)) (
 some (.inr (1,[.i .i64 i]))) (
 some (.inl [.i .i64 (bB .i64 (i-1))]))) (
 some (.inr (2,[])))) [.i .i64 (bB .i64 ((oM.length:Int)-1))]) λp=>
 bM (AI p.1 2) (
 gN p.2<|
 some (.i .i64 (-1))) (
 cQ (AI p.1 1)<|
 gC p.2 λm1 qi=>
 gI .i64 m1 λx=>
 gN qi<|
 some (.i .i64 x))
def lk:GT:=bt 198 (ga ef) J9
theorem pH:SG lk:=o6 Ka [] 19 [] [] [(2,⟨[0,1],[],[(5,.sc (.k (.i .i64)))],[(1,[(4,.sc (.k (.i .i64)))]),(2,[])],[]⟩)] Tryz.func198 (by kernel_rfl) (bE (λ_ _=>by kernel_rfl))
def fb (sep:MV):Option MV:=gS sep λac5=>
 bd (Loop (λjv=>
 V9 .u32 .i64 jv λhash i=>
 bM (decide ((0:Int)<=i)) (
 cQ (decide ((0:Int)<=i/\i<(ac5.length:Int)))<|
 some (.inl [.i .u32 (bB .u32 ((bB .u32 (hash *16777619))+(bB .u32 ((ac5.getD (sh i) 0).toNat:Int)))),.i .i64 (bB .i64 (i-1))])) (
 some (.inr (2,[.i .u32 hash])))) [.i .u32 0,.i .i64 (bB .i64 ((ac5.length:Int)-1))]) λp=>
 cQ (AI p.1 2)<|
 gC p.2 λm2 vP=>
 gI .u32 m2 λajU=>
 gN vP<|
 bd (Loop (λvQ=>
 afR .u32 .u32 .i64 vQ λpow sq i1=>
 bM (decide ((0:Int)<i1)) (
 bd (
 bM (!decide ((H0 .i64 i1 1)=0)) (
 some (0,[.i .u32 (bB .u32 (pow *sq))])) (
 some (0,[.i .u32 pow]))) λp2=>
 cQ (AI p2.1 0)<|
 gC p2.2 λm6 xV=>
 gI .u32 m6 λanl=>
 gN xV<|
 cQ (decide ((0:Int)<=1))<|
 some (.inl [.i .u32 anl,.i .u32 (bB .u32 (sq *sq)),.i .i64 (IT i1 (2^min (sh 1) (AS .i64)))])) (
 some (.inr (4,[.i .u32 pow])))) [.i .u32 1,.i .u32 16777619,.i .i64 (ac5.length:Int)]) λp1=>
 cQ (AI p1.1 4)<|
 gC p1.2 λm7 Fx=>
 gI .u32 m7 λanm=>
 gN Fx<|
 some (.bW [.i .u32 ajU,.i .u32 anm])
def nm:GT:=bt 239 (r8 fb) lk
theorem rv:SG nm:=o6 pH [] 40 [] [(11,⟨[4,7,8],[],[],[(0,[(6,.sc (.k (.i .u32)))])],[]⟩)] [(8,⟨[4],[],[(6,.sc (.k (.i .u32))),(7,.sc (.k (.i .u32))),(8,.sc (.k (.i .i64)))],[(4,[(6,.sc (.k (.i .u32)))])],[]⟩),(3,⟨[0],[],[(4,.sc (.k (.i .u32))),(5,.sc (.k (.i .i64)))],[(2,[(4,.sc (.k (.i .u32)))])],[]⟩)] Tryz.func239 (by kernel_rfl) (eN (λ_=>by kernel_rfl))
def dj (a a1:MV):Option MV:=gS a λa2=>
 gS a1 λsi=>
 bd (fb (.s si)) λrA=>
 gT rA λvs=>
 V9 .u32 .u32 vs λx x1=>
 bd (Loop (λqi=>
 V9 .u32 .i64 qi λx2 x3=>
 bM (decide ((bB .i64 ((a2.length:Int)-(si.length:Int)))<=x3)) (
 cQ (decide ((0:Int)<=x3/\x3<(a2.length:Int)))<|
 some (.inl [.i .u32 (bB .u32 ((bB .u32 (x2 *16777619))+(bB .u32 ((a2.getD (sh x3) 0).toNat:Int)))),.i .i64 (bB .i64 (x3-1))])) (
 some (.inr (2,[.i .u32 x2])))) [.i .u32 0,.i .i64 (bB .i64 ((a2.length:Int)-1))]) λp=>
 cQ (AI p.1 2)<|
 gC p.2 λm4 xZ=>
 gI .u32 m4 λx4=>
 gN xZ<|
 bd (
 bM (decide (x4=x)) (
 cQ (decide ((0:Int)<=(bB .i64 ((a2.length:Int)-(si.length:Int)))/\(bB .i64 ((a2.length:Int)-(si.length:Int)))<=(a2.length:Int)/\(a2.length:Int)<=(a2.length:Int)))<|
 some [.b (decide ((By (sh (bB .i64 ((a2.length:Int)-(si.length:Int)))) (BY (sh (a2.length:Int)) a2))=si))]) (
 some [.b false])) λmX=>
 gC mX λm5 Kb=>
 gB m5 λx5=>
 gN Kb<|
 bM x5 (
 some (.i .i64 (bB .i64 ((a2.length:Int)-(si.length:Int))))) (
 bd (Loop (λAH=>
 V9 .u32 .i64 AH λx6 x7=>
 bM (decide ((0:Int)<=x7)) (
 cQ (decide ((0:Int)<=x7/\x7<(a2.length:Int)))<|
 cQ (decide ((0:Int)<=(bB .i64 (x7+(si.length:Int)))/\(bB .i64 (x7+(si.length:Int)))<(a2.length:Int)))<|
 bd (
 bM (decide ((bB .u32 ((bB .u32 ((bB .u32 (x6 *16777619))+(bB .u32 ((a2.getD (sh x7) 0).toNat:Int))))-(bB .u32 (x1 *(bB .u32 ((a2.getD (sh (bB .i64 (x7+(si.length:Int)))) 0).toNat:Int))))))=x)) (
 cQ (decide ((0:Int)<=x7/\x7<=(bB .i64 (x7+(si.length:Int)))/\(bB .i64 (x7+(si.length:Int)))<=(a2.length:Int)))<|
 some [.b (decide ((By (sh x7) (BY (sh (bB .i64 (x7+(si.length:Int)))) a2))=si))]) (
 some [.b false])) λuq=>
 gC uq λm8 Ay=>
 gB m8 λx8=>
 gN Ay<|
 bM x8 (
 some (.inr (1,[.i .i64 x7]))) (
 some (.inl [.i .u32 (bB .u32 ((bB .u32 ((bB .u32 (x6 *16777619))+(bB .u32 ((a2.getD (sh x7) 0).toNat:Int))))-(bB .u32 (x1 *(bB .u32 ((a2.getD (sh (bB .i64 (x7+(si.length:Int)))) 0).toNat:Int)))))),.i .i64 (bB .i64 (x7-1))]))) (
 some (.inr (4,[])))) [.i .u32 x4,.i .i64 (bB .i64 ((bB .i64 ((a2.length:Int)-(si.length:Int)))-1))]) λp1=>
 bM (AI p1.1 4) (
 gN p1.2<|
 some (.i .i64 (-1))) (
 cQ (AI p1.1 1)<|
 gC p1.2 λm9 wP=>
 gI .i64 m9 λx9=>
 gN wP<|
 some (.i .i64 x9)))
def jb:GT:=bt 199 (ga dj) nm
theorem mU:SG jb:=o6 rv [] 87 [(17,⟨[0,1,5,6,7,9,11],[],[],[(0,[(85,.sc (.k .b))])],[]⟩),(9,⟨[0,1,5,6,7,8,9],[],[],[(0,[(47,.sc (.k .b))])],[]⟩)] [] [(12,⟨[0,1,5,6,7],[],[(9,.sc (.k (.i .u32))),(11,.sc (.k (.i .i64)))],[(1,[(4,.sc (.k (.i .i64)))]),(4,[])],[]⟩),(6,⟨[0,1,5,6,7,8],[],[(9,.sc (.k (.i .u32))),(10,.sc (.k (.i .i64)))],[(2,[(9,.sc (.k (.i .u32)))])],[]⟩)] Tryz.func199 (by kernel_rfl) (bE (λ_ _=>by kernel_rfl))
def ll (sA substr:MV):Option MV:=gS sA λoM=>
 gS substr λve=>
 bM (decide ((ve.length:Int)=0)) (
 some (.i .i64 (oM.length:Int))) (
 bM (decide ((ve.length:Int)=1)) (
 cQ (decide ((0:Int)<=0/\(0:Int)<(ve.length:Int)))<|
 bd (ef (.s oM) (.i .u8 ((ve.getD (sh 0) 0).toNat:Int))) λrA=>
 gI .i64 rA λx=>
 some (.i .i64 x)) (
 bM (decide ((ve.length:Int)=(oM.length:Int))) (
 bM (decide (ve=oM)) (
 some (.i .i64 0)) (
 some (.i .i64 (-1)))) (
 bM (decide ((oM.length:Int)<(ve.length:Int))) (
 some (.i .i64 (-1))) (
 bd (dj (.s oM) (.s ve)) λaB=>
 gI .i64 aB λx1=>
 some (.i .i64 x1)))))
def vf:GT:=bt 138 (ga ll) jb
theorem zA:SG vf:=o6 mU [] 36 [] [] [] Tryz.func138 (by kernel_rfl) (bE (λ_ _=>by kernel_rfl))
def re (p:MV):Option MV:=gS p λp1=>
 bd (lQ (.s p1)) λrA=>
 gB rA λx=>
 bM (!x) (
 some (.bW [.s ([]:List UInt8),.i .i64 13])) (
 bM (decide (p1=([47]:List UInt8))) (
 some (.bW [.s ([]:List UInt8),.i .i64 6])) (
 bd (ll (.s p1) (.s ([47]:List UInt8))) λaB=>
 gI .i64 aB λx1=>
 cQ (decide ((0:Int)<=0/\(0:Int)<=(imax 1 x1)/\(imax 1 x1)<=(p1.length:Int)))<|
 some (.bW [.s (By (sh 0) (BY (sh (imax 1 x1)) p1)),.i .i64 0])))
def GM:GT:=bt 74 (r8 re) vf
theorem Hi:SG GM:=o6 zA [] 16 [] [] [] Tryz.func74 (by kernel_rfl) (eN (λ_=>by kernel_rfl))
def iG (sA p:MV):Option MV:=gA sA λcs=>
 gC cs λm jv=>
 gL m λL=>
 gN jv<|
 gS p λp1=>
 bd (lQ (.s p1)) λrA=>
 gB rA λx=>
 bM (!x) (
 some (.bW [.i .i64 0,.i .i64 13])) (
 bd (jO (.agg [.list L]) (.s p1)) λaB=>
 gT aB λvs=>
 UF vs λx1 x2=>
 bM (!x2) (
 some (.bW [.i .i64 0,.i .i64 6])) (
 some (.bW [.i .i64 x1,.i .i64 0])))
def za:GT:=bt 220 (ga iG) GM
theorem BP:SG za:=o6 Hi [] 20 [] [] [] Tryz.func220 (by kernel_rfl) (bE (λ_ _=>by kernel_rfl))
def sM (sA p:MV):Option MV:=gA sA λcs=>
 gC cs λm jv=>
 gL m λL=>
 gN jv<|
 gS p λp1=>
 bd (iG (.agg [.list L]) (.s p1)) λrA=>
 gT rA λvs=>
 jII vs λx x1=>
 bM (!decide (x1=0)) (
 some (.bW [.agg (rP ([]:List UInt8) ([]:List UInt8) 0 0),.i .i64 x1])) (
 idx L x λy=>
 gA y λmK=>
 tw mK λPath Value Version il=>
 some (.bW [.agg (rP Path Value Version il),.i .i64 0]))
def Nk:GT:=bt 172 (ga sM) za
theorem LJ:SG Nk:=o6 BP [] 23 [] [] [] Tryz.func172 (by kernel_rfl) (bE (λ_ _=>by kernel_rfl))
def pc (c c1 c2 c3 c4:MV):Option MV:=gP c λcs=>
 gC cs λm jv=>
 gS m λx=>
 gN jv<|
 gP c1 λmK=>
 gC mK λm1 kf=>
 gB m1 λx1=>
 gN kf<|
 gP c2 λBE=>
 gC BE λm2 qi=>
 gL m2 λL=>
 gN qi<|
 gP c3 λvE=>
 gC vE λm3 vP=>
 gS m3 λx2=>
 gN vP<|
 gP c4 λcs4=>
 gC cs4 λm4 vQ=>
 gI .i64 m4 λx3=>
 gN vQ<|
 bd (lQ (.s x)) λrA=>
 gB rA λx4=>
 bM (!x4) (
 some (.i .i64 13)) (
 bM x1 (
 some (.i .i64 7)) (
 bd (re (.s x)) λaB=>
 gT aB λvs=>
 gC vs λm5 xZ=>
 gS m5 λx5=>
 gC xZ λm6 Kb=>
 gI .i64 m6 λx6=>
 gN Kb<|
 bd (sM (.agg [.list L]) (.s x5)) λbK=>
 gT bK λmX=>
 gC mX λm7 AH=>
 gA m7 λcs5=>
 tw cs5 λPath Value Version il=>
 gC AH λm12 aan=>
 gI .i64 m12 λx7=>
 gN aan<|
 bM (!decide (x7=0)) (
 some (.i .i64 6)) (
 bM (!decide (il=0)) (
 some (.i .i64 10)) (
 bM (decide ((1000:Int)<(x2.length:Int))) (
 some (.i .i64 5)) (
 bM (decide (x3<0)) (
 some (.i .i64 1)) (
 cn L λlen=>
 bM (decide ((200:Int)<=(len:Int))) (
 some (.i .i64 9)) (
 some (.i .i64 0))))))))
def AJ:GT:=bt 217 (afO pc) Nk
theorem CD:SG AJ:=o6 LJ [[.s],[.b],[.l],[.s],[.i .i64]] 44 [] [] [] Tryz.func217 (by kernel_rfl) (acK (λ_ _ _ _ _=>by kernel_rfl))
def sm (sA p value owner:MV):Option MV:=gA sA λcs=>
 gC cs λm jv=>
 gL m λL=>
 gN jv<|
 gS p λp1=>
 gS value λAK=>
 gI .i64 owner λFC=>
 bd (jO (.agg [.list L]) (.s p1)) λrA=>
 gT rA λvs=>
 UF vs λx x1=>
 bd (pc (.rp [.s p1]) (.rp [.b x1]) (.rp [.list L]) (.rp [.s AK]) (.rp [.i .i64 FC])) λaB=>
 gI .i64 aB λx2=>
 bM (!decide (x2=0)) (
 some (.bW [.agg [.list L],.i .i64 x2])) (
 both (
 bd (gn 4 48 [.list L]) λbK=>
 gF bK λxs=>
 bd (j8 48 [.fresh xs,.i .i64 x,.fresh ([.agg (rP p1 AK 0 FC)]:List MV)]) λqC=>
 gF qC λJT=>
 some (.bW [.agg [.list JT],.i .i64 0])) (
 bd (gn 4 48 [.list L]) λHT=>
 gF HT λxs2=>
 bd (j8 48 [.fresh xs2,.i .i64 x,.fresh ([.agg (rP p1 AK 0 FC)]:List MV)]) λHU=>
 gF HU λxs3=>
 some (.bW [.agg [.list xs3],.i .i64 0])))
def En:GT:=bt 170 (acJ sm) AJ
theorem FD:SG En:=KZ CD [] [] 38 [] [] [] [(6,[0,1,3,4,5,6,7,2,8,9,10,11,12,0,1,3,4,5,6,7,8,2,9,10,11,12,13,2,8])] [] [] [] [] Tryz.func170 (by kernel_rfl) (Uz (λ_ _ _ _=>by kernel_rfl))
def eX (w:List MV)(kind:MV):Option MV:=gI .i64 kind λaei=>
 aL w λcI bY dN cZ iq cN nk gh ej dA bU bI fR cJ mn xE dG bZ dH lA=>
 bd (
 bM (decide (xE=0)) (
 cn lA λlen=>
 cn ([.agg [.i .i64 aei,.s ej]]:List MV) λfB=>
 cQ (decide ((len+fB) *24<=2^46))<|
 some (0,(au cI bY dN cZ iq cN nk gh ej dA bU bI fR cJ mn xE dG bZ dH (lA++([.agg [.i .i64 aei,.s ej]]:List MV))))) (
 some (0,(au cI bY dN cZ iq cN nk gh ej dA bU bI fR cJ mn xE dG bZ dH lA)))) λp=>
 cQ (AI p.1 0)<|
 cK .i64 .i64 .i64 .i64 .i64 .i64 .i64 .i64 .i64 .i64 .i64 p.2 λx x1 x2 x3 x4 x5 x6 x7 x8 x9 Hg JE JF JG JH JI JJ Lw Lx xs=>
 some (.dx (.bW []) (au x x1 x2 x3 x4 x5 x6 x7 x8 x9 Hg JE JF JG JH JI JJ Lw Lx xs))
def tF:GT:=bt 171 (cl2 eX) En
theorem yg:SG tF:=Rk FD 0 jV [] [(0,1000000)] 26 [22] [] [] [(1,[0,1,2,3,4,5,6,7,8,9,10,11,12,13,14,15,16])] [] [(1,⟨[0,1],[],[],[(0,[(1000000,.box [.k .l,.k (.i .i64),.k .l,.k .l,.k .l,.k (.i .i64),.k (.i .i64),.k (.i .i64),.k .s,.k .s,.k (.i .i64),.k (.i .i64),.k (.i .i64),.k (.i .i64),.k (.i .i64),.k (.i .i64),.k .s,.k (.i .i64),.k .l,.own 2000019 77 false])])],[]⟩)] [] [] Tryz.func171 (by kernel_rfl) (by kernel_rfl) (aak λ_ _=>by kernel_rfl)
def lm (w:List MV):Option MV:=aL w λcI bY dN cZ iq cN nk gh ej dA bU bI fR cJ mn xE dG bZ dH lA=>
 bd (
 bM (!decide (bI=0)) (
 bd (Bv (.agg [.i .i64 bY,.list dN]) (.i .i64 bI)) λrA=>
 gB rA λx=>
 some [.b (!x)]) (
 some [.b false])) λvs=>
 gC vs λJ3 lP=>
 gB J3 λx1=>
 gN lP<|
 bM x1 (
 some (.dx (.bW []) (au cI bY dN cZ iq cN nk gh ej dA bU bI fR cJ mn 14 dG bZ dH lA))) (
 bd (sm (.agg [.list cI]) (.s ej) (.s dA) (.i .i64 bI)) λaB=>
 gT aB λmX=>
 gC mX λWr AD=>
 gA Wr λcs=>
 gC cs λm22 wR=>
 gL m22 λL=>
 gN wR<|
 gC AD λm23 AE=>
 gI .i64 m23 λx2=>
 gN AE<|
 bd (eX (au L bY dN cZ iq cN nk gh ej dA bU bI fR cJ mn x2 dG bZ dH lA) (.i .i64 1)) λbK=>
 gW bK λx3 ls=>
 aL ls λlR kO qH nn vU np Cb vV tG qI kP kQ vW nq Cc xE1 qJ mq qK CA=>
 some (.dx (.bW []) (au lR kO qH nn vU np Cb vV tG qI kP kQ vW nq Cc xE1 qJ mq qK CA)))
def vg:GT:=bt 106 (Wp lm) tF
theorem zC:SG vg:=Rk yg 0 jV [] [(0,1000000)] 60 [] [] [] [(0,[0,1,2,3,4,5,6,7,8,9,10,11,12,13,14,15,16,17,18,19]),(2,[0,1,2,3,4,5,6,7,8,9,10,11,12,13,14,15,16,17,18,19,20,21,22,23,24,25,26,27,28,29,30,31,32,33])] [(0,⟨[0,1000000],[2000019],[],[(0,[(21,.sc (.k .b))])],[]⟩)] [] [] [] Tryz.func106 (by kernel_rfl) (by kernel_rfl) (tz λ_=>by kernel_rfl)
def pe (w:List MV):Option MV:=aL w λcI bY dN cZ iq cN nk gh ej dA bU bI fR cJ mn xE dG bZ dH lA=>
 bd (sM (.agg [.list cI]) (.s ej)) λrA=>
 gT rA λvs=>
 gC vs λJ3 lP=>
 gA J3 λcs=>
 tw cs λPath Value Version il=>
 gC lP λm25 QH=>
 gI .i64 m25 λx=>
 gN QH<|
 some (.dx (.bW []) (au cI bY dN cZ iq cN nk gh ej dA bU bI fR cJ mn x Value Version dH lA))
def AL:GT:=bt 107 (Wp pe) vg
theorem CE:SG AL:=Rk zC 0 jV [] [(0,1000000)] 35 [] [24] [(1,[2])] [(0,[0,1,2,3,4,5,6,7,8,9,10,11,12,13,14,15,16]),(1,[0,1,2,3,4,5,6,7,8,9,10,11,12,13,14,15,16,17,18,19])] [] [] [] [] Tryz.func107 (by kernel_rfl) (by kernel_rfl) (tz λ_=>by kernel_rfl)
def fG (sA p version:MV):Option MV:=gA sA λcs=>
 gC cs λm jv=>
 gL m λL=>
 gN jv<|
 gS p λp1=>
 gI .i64 version λwU=>
 bd (iG (.agg [.list L]) (.s p1)) λrA=>
 gT rA λvs=>
 jII vs λx x1=>
 bd (
 bM (decide (x1=0)) (
 bM (!decide (wU=(-1))) (
 idx L x λy=>
 gA y λmK=>
 tw mK λPath Value Version il=>
 some [.b (!decide (wU=Version))]) (
 some [.b false])) (
 some [.b false])) λmX=>
 gC mX λm7 AH=>
 gB m7 λx2=>
 gN AH<|
 bM x2 (
 some (.bW [.i .i64 x,.i .i64 8])) (
 some (.bW [.i .i64 x,.i .i64 x1]))
def rf:GT:=bt 221 (OJ fG) AL
theorem vX:SG rf:=o6 CE [] 35 [(2,⟨[2,3,8,9],[],[],[(0,[(31,.sc (.k .b))])],[]⟩)] [] [] Tryz.func221 (by kernel_rfl) (xU (λ_ _ _=>by kernel_rfl))
def Bw (sA p value version:MV):Option MV:=gA sA λcs=>
 gC cs λm jv=>
 gL m λL=>
 gN jv<|
 gS p λp1=>
 gS value λAK=>
 gI .i64 version λwU=>
 bd (fG (.agg [.list L]) (.s p1) (.i .i64 wU)) λrA=>
 gT rA λvs=>
 jII vs λx x1=>
 bM (!decide (x1=0)) (
 some (.bW [.agg [.list L],.i .i64 x1])) (
 bM (decide ((1000:Int)<(AK.length:Int))) (
 some (.bW [.agg [.list L],.i .i64 5])) (
 idx L x λy=>
 gA y λmK=>
 tw mK λPath Value Version il=>
 bM (decide ((1000000000:Int)<=Version)) (
 some (.bW [.agg [.list L],.i .i64 9])) (
 bd (gn 4 48 [.list L]) λaB=>
 gF aB λxs=>
 idx xs x λy1=>
 gA y1 λBE=>
 tw BE λot kg dM J8=>
 idx (xs.set (sh x) (.agg (rP ot AK dM J8))) x λy2=>
 gA y2 λvE=>
 tw vE λapc af6 QL ann=>
 idx (xs.set (sh x) (.agg (rP ot AK dM J8))) x λy3=>
 gA y3 λcs4=>
 tw cs4 λajW af7 ajX af8=>
 some (.bW [.agg [.list ((xs.set (sh x) (.agg (rP ot AK dM J8))).set (sh x) (.agg (rP ajW af7 (bB .i64 (QL+1)) af8)))],.i .i64 0]))))
def Nl:GT:=bt 173 (acJ Bw) rf
theorem LL:SG Nl:=o6 vX [] 59 [] [] [] Tryz.func173 (by kernel_rfl) (Uz (λ_ _ _ _=>by kernel_rfl))
def pf (w:List MV):Option MV:=aL w λcI bY dN cZ iq cN nk gh ej dA bU bI fR cJ mn xE dG bZ dH lA=>
 bd (Bw (.agg [.list cI]) (.s ej) (.s dA) (.i .i64 bU)) λrA=>
 gT rA λvs=>
 gC vs λJ3 lP=>
 gA J3 λcs=>
 gC cs λWr AD=>
 gL Wr λL=>
 gN AD<|
 gC lP λm22 wR=>
 gI .i64 m22 λx=>
 gN wR<|
 bd (eX (au L bY dN cZ iq cN nk gh ej dA bU bI fR cJ mn x dG bZ dH lA) (.i .i64 2)) λaB=>
 gW aB λx1 ls=>
 aL ls λlR kO qH nn vU np Cb vV tG qI kP kQ vW nq Cc xE1 qJ mq qK CA=>
 bd (
 bM (decide (xE1=0)) (
 bd (sM (.agg [.list lR]) (.s tG)) λbK=>
 gT bK λmX=>
 gC mX λm43 QK=>
 gA m43 λmK=>
 tw mK λPath Value Version il=>
 gC QK λm48 aaA=>
 gI .i64 m48 λx2=>
 gN aaA<|
 some (0,(au lR kO qH nn vU np Cb vV tG qI kP kQ vW nq Cc xE1 qJ Version qK CA))) (
 some (0,(au lR kO qH nn vU np Cb vV tG qI kP kQ vW nq Cc xE1 qJ mq qK CA)))) λp=>
 cQ (AI p.1 0)<|
 cK .i64 .i64 .i64 .i64 .i64 .i64 .i64 .i64 .i64 .i64 .i64 p.2 λx3 x4 x5 x6 x7 x8 x9 Hg JE JF JG JH JI JJ Lw Lx Ly UM Xf xs=>
 some (.dx (.bW []) (au x3 x4 x5 x6 x7 x8 x9 Hg JE JF JG JH JI JJ Lw Lx Ly UM Xf xs))
def AM:GT:=bt 108 (Wp pf) Nl
theorem CF:SG AM:=Rk LL 0 jV [] [(0,1000000)] 64 [] [] [] [(0,[0,1,2,3,4,5,6,7,8,9,10,11,12,13,14,15,16,17,18,19,20,21,22,23,24,25,26,27,28,29,30,31,32,33]),(3,[0,1,2,3,4,5,6,7,8,9,10,11,12,13,14,15,16])] [] [(3,⟨[0],[],[],[(0,[(1000000,.box [.k .l,.k (.i .i64),.k .l,.k .l,.k .l,.k (.i .i64),.k (.i .i64),.k (.i .i64),.k .s,.k .s,.k (.i .i64),.k (.i .i64),.k (.i .i64),.k (.i .i64),.k (.i .i64),.k (.i .i64),.k .s,.k (.i .i64),.k .l,.own 2000019 77 false])])],[]⟩)] [] [] Tryz.func108 (by kernel_rfl) (by kernel_rfl) (tz λ_=>by kernel_rfl)
def kp (s1 s2:MV):Option MV:=gL s1 λSQ=>
 gL s2 λWs=>
 cn SQ λlen=>
 cn Ws λfB=>
 bM (!decide ((len:Int)=(fB:Int))) (
 some (.b false)) (
 cn SQ λmi=>
 bd (Loop (λjv=>
 gC jv λm kf=>
 gI .i64 m λx=>
 gN kf<|
 bM (decide (x<(mi:Int))) (
 idx SQ x λy=>
 gS y λx1=>
 idx Ws x λy1=>
 gS y1 λx2=>
 bM (!decide (x1=x2)) (
 some (.inr (1,[.b false]))) (
 some (.inl [.i .i64 (bB .i64 (x+1))]))) (
 some (.inr (2,[])))) [.i .i64 0]) λp=>
 bM (AI p.1 2) (
 gN p.2<|
 some (.b true)) (
 cQ (AI p.1 1)<|
 gC p.2 λm1 qi=>
 gB m1 λx3=>
 gN qi<|
 some (.b x3)))
def tH:GT:=bt 142 (ga kp) AM
theorem yh:SG tH:=KZ CF [] [] 26 [] [] [] [(6,[0,1,2,3,4,5,6,7,8])] [] [] [(4,⟨[0,1,12],[],[(13,.sc (.k (.i .i64)))],[(1,[(4,.sc (.k .b))]),(2,[])],[]⟩)] [] Tryz.func142 (by kernel_rfl) (bE (λ_ _=>by kernel_rfl))
def tJ (p q:MV):Option MV:=gS p λp1=>
 gS q λq1=>
 bd (km (.s p1)) λrA=>
 gT rA λvs=>
 gC vs λm jv=>
 gL m λx=>
 gC jv λm1 kf=>
 gB m1 λx1=>
 gN kf<|
 bd (km (.s q1)) λaB=>
 gT aB λmX=>
 gC mX λm2 qi=>
 gL m2 λx2=>
 gC qi λm3 vP=>
 gB m3 λx3=>
 gN vP<|
 bd (
 bM x1 (
 bM x3 (
 cn x2 λlen=>
 cn x λfB=>
 bM (decide ((fB:Int)<(len:Int))) (
 cn x λmi=>
 cn x2 λAz=>
 cQ (decide ((0:Int)<=0/\(0:Int)<=(mi:Int)/\(mi:Int)<=(Az:Int)))<|
 bd (kp (.list x) (.list (By (sh 0) (BY (sh (mi:Int)) x2)))) λbK=>
 gB bK λx4=>
 some [.b x4]) (
 some [.b false])) (
 some [.b false])) (
 some [.b false])) λuq=>
 gC uq λm4 vQ=>
 gB m4 λx5=>
 gN vQ<|
 some (.b x5)
def Kc:GT:=bt 222 (ga tJ) tH
theorem Ke:SG Kc:=o6 yh [] 38 [(3,⟨[5,6,7,8],[],[],[(0,[(4,.sc (.k .b))])],[]⟩)] [] [] Tryz.func222 (by kernel_rfl) (bE (λ_ _=>by kernel_rfl))
def sn (sA p version:MV):Option MV:=gA sA λcs=>
 gC cs λm jv=>
 gL m λL=>
 gN jv<|
 gS p λp1=>
 gI .i64 version λwU=>
 bd (fG (.agg [.list L]) (.s p1) (.i .i64 wU)) λrA=>
 gT rA λvs=>
 jII vs λx x1=>
 bM (decide (p1=([47]:List UInt8))) (
 some (.bW [.agg [.list L],.i .i64 13])) (
 bM (!decide (x1=0)) (
 some (.bW [.agg [.list L],.i .i64 x1])) (
 bd (
 cn L λlen=>
 bM (decide ((bB .i64 (x+1))<(len:Int))) (
 idx L (bB .i64 (x+1)) λy=>
 gA y λmK=>
 tw mK λPath Value Version il=>
 bd (tJ (.s p1) (.s Path)) λaB=>
 gB aB λx2=>
 some [.b x2]) (
 some [.b false])) λmX=>
 gC mX λm7 AH=>
 gB m7 λx3=>
 gN AH<|
 bM x3 (
 some (.bW [.agg [.list L],.i .i64 10])) (
 bd (gn 4 48 [.list L]) λbK=>
 gF bK λxs=>
 bd (qz [.fresh xs,.i .i64 x,.i .i64 (bB .i64 (x+1))]) λqC=>
 gF qC λJT=>
 some (.bW [.agg [.list JT],.i .i64 0]))))
def Eo:GT:=bt 174 (OJ sn) Kc
theorem FE:SG Eo:=o6 Ke [] 53 [(6,⟨[1,3,6,8],[],[],[(0,[(26,.sc (.k .b))])],[47,51]⟩)] [] [] Tryz.func174 (by kernel_rfl) (xU (λ_ _ _=>by kernel_rfl))
def ln (w:List MV):Option MV:=aL w λcI bY dN cZ iq cN nk gh ej dA bU bI fR cJ mn xE dG bZ dH lA=>
 bd (sn (.agg [.list cI]) (.s ej) (.i .i64 bU)) λrA=>
 gT rA λvs=>
 gC vs λJ3 lP=>
 gA J3 λcs=>
 gC cs λWr AD=>
 gL Wr λL=>
 gN AD<|
 gC lP λm22 wR=>
 gI .i64 m22 λx=>
 gN wR<|
 bd (eX (au L bY dN cZ iq cN nk gh ej dA bU bI fR cJ mn x dG bZ dH lA) (.i .i64 3)) λaB=>
 gW aB λx1 ls=>
 aL ls λlR kO qH nn vU np Cb vV tG qI kP kQ vW nq Cc xE1 qJ mq qK CA=>
 some (.dx (.bW []) (au lR kO qH nn vU np Cb vV tG qI kP kQ vW nq Cc xE1 qJ mq qK CA))
def vh:GT:=bt 109 (Wp ln) Eo
theorem zD:SG vh:=Rk FE 0 jV [] [(0,1000000)] 31 [] [] [] [(0,[0,1,2,3,4,5,6,7,8,9,10,11,12,13,14,15,16,17,18,19,20,21,22,23,24,25,26,27,28])] [] [] [] [] Tryz.func109 (by kernel_rfl) (by kernel_rfl) (tz λ_=>by kernel_rfl)
def tK (p:MV):Option MV:=gS p λp1=>
 bd (km (.s p1)) λrA=>
 gT rA λvs=>
 gC vs λm jv=>
 gL m λx=>
 gC jv λm1 kf=>
 gB m1 λx1=>
 gN kf<|
 bM (!x1) (
 some (.bW [.list ([]:List MV),.i .i64 13])) (
 some (.bW [.list x,.i .i64 0]))
def Kf:GT:=bt 224 (r8 tK) vh
theorem Kg:SG Kf:=o6 zD [] 14 [] [] [] Tryz.func224 (by kernel_rfl) (eN (λ_=>by kernel_rfl))
def yi (a a1:MV):Option MV:=gA a λcs=>
 gC cs λm jv=>
 gL m λL=>
 gN jv<|
 gS a1 λsi=>
 bd (iG (.agg [.list L]) (.s si)) λrA=>
 gT rA λvs=>
 jII vs λx x1=>
 bM (!decide (x1=0)) (
 some (.bW [.list ([]:List MV),.i .i64 x1])) (
 bd (tK (.s si)) λaB=>
 gT aB λmX=>
 JK mX λx2 x3=>
 cQ (pR 4 L)<|
 cn L λlen=>
 cQ (decide ((0:Int)<=(bB .i64 (x+1))/\(bB .i64 (x+1))<=(len:Int)/\(len:Int)<=(len:Int)))<|
 cn (By (sh (bB .i64 (x+1))) (BY (sh (len:Int)) L)) λfB=>
 bd (Loop (λxZ=>
 JK xZ λxs x4=>
 bM (decide (x4<(fB:Int))) (
 idx (By (sh (bB .i64 (x+1))) (BY (sh (len:Int)) L)) x4 λy=>
 gA y λmK=>
 tw mK λPath Value Version il=>
 bd (tJ (.s si) (.s Path)) λbK=>
 gB bK λx5=>
 bM (!x5) (
 some (.inr (2,[.list xs]))) (
 bd (tK (.s Path)) λqC=>
 gT qC λuq=>
 JK uq λx6 x7=>
 cn x6 λmi=>
 cn x2 λAz=>
 bd (
 bM (decide ((mi:Int)=(bB .i64 ((Az:Int)+1)))) (
 cn x2 λJV=>
 idx x6 (JV:Int) λy1=>
 gS y1 λx8=>
 cn xs λaf1=>
 cn ([.s x8]:List MV) λWq=>
 cQ (decide ((af1+Wq) *16<=2^46))<|
 some (0,[.list (xs++([.s x8]:List MV))])) (
 some (0,[.list xs]))) λp1=>
 cQ (AI p1.1 0)<|
 gC p1.2 λm13 aaD=>
 gL m13 λJT=>
 gN aaD<|
 some (.inl [.list JT,.i .i64 (bB .i64 (x4+1))]))) (
 some (.inr (2,[.list xs])))) [.list ([]:List MV),.i .i64 0]) λp=>
 cQ (AI p.1 2)<|
 gC p.2 λm14 ajY=>
 gL m14 λxs2=>
 gN ajY<|
 some (.bW [.list xs2,.i .i64 0]))
def Kh:GT:=bt 175 (ga yi) Kf
theorem Ki:SG Kh:=KZ Kg [] [] 66 [62] [] [] [] [] [(12,⟨[1,8,13,33,34,35],[],[],[(0,[(10,.sc (.own 63 9 true))])],[63]⟩)] [(7,⟨[1,8,33,34],[],[(10,.sc (.own 63 9 true)),(35,.sc (.k (.i .i64)))],[(2,[(10,.sc (.own 63 9 true))])],[63]⟩)] [] Tryz.func175 (by kernel_rfl) (bE (λ_ _=>by kernel_rfl))
def nE (w:List MV):Option MV:=aL w λcI bY dN cZ iq cN nk gh ej dA bU bI fR cJ mn xE dG bZ dH lA=>
 bd (yi (.agg [.list cI]) (.s ej)) λrA=>
 gT rA λvs=>
 JK vs λx x1=>
 some (.dx (.bW []) (au cI bY dN cZ iq cN nk gh ej dA bU bI fR cJ mn x1 dG bZ x lA))
def zb:GT:=bt 110 (Wp nE) Kh
theorem BQ:SG zb:=Rk Ki 0 jV [] [(0,1000000)] 24 [] [] [] [(0,[0,1,2,3,4,5,6,7,8,9,10,11,12,13,14,15,16,17,18,19,20,21,22,23])] [] [] [] [] Tryz.func110 (by kernel_rfl) (by kernel_rfl) (tz λ_=>by kernel_rfl)
def yl (b id span:MV):Option MV:=gA b λcs=>
 Xe cs λjH L=>
 gI .i64 id λRt=>
 gI .i64 span λNn=>
 bd (fW (.agg [.i .i64 jH,.list L]) (.i .i64 Rt)) λrA=>
 gT rA λvs=>
 UF vs λx x1=>
 bd (
 bM (decide (Rt<1)) (
 some [.b true]) (
 bM (decide (Nn<1)) (
 some [.b true]) (
 some [.b (decide ((1000:Int)<Nn))]))) λmX=>
 gC mX λm4 vQ=>
 gB m4 λx2=>
 gN vQ<|
 bM x2 (
 some (.bW [.agg [.i .i64 jH,.list L],.i .i64 1])) (
 bM x1 (
 some (.bW [.agg [.i .i64 jH,.list L],.i .i64 7])) (
 cn L λlen=>
 bM (decide ((50:Int)<=(len:Int))) (
 some (.bW [.agg [.i .i64 jH,.list L],.i .i64 9])) (
 both (
 bd (gn 3 24 [.list L]) λaB=>
 gF aB λxs=>
 bd (j8 24 [.fresh xs,.i .i64 x,.fresh ([.agg [.i .i64 Rt,.i .i64 Nn,.i .i64 (bB .i64 (jH+Nn))]]:List MV)]) λbK=>
 gF bK λJT=>
 some (.bW [.agg [.i .i64 jH,.list JT],.i .i64 0])) (
 bd (gn 3 24 [.list L]) λqC=>
 gF qC λxs2=>
 bd (j8 24 [.fresh xs2,.i .i64 x,.fresh ([.agg [.i .i64 Rt,.i .i64 Nn,.i .i64 (bB .i64 (jH+Nn))]]:List MV)]) λHT=>
 gF HT λxs3=>
 some (.bW [.agg [.i .i64 jH,.list xs3],.i .i64 0])))))
def Kj:GT:=bt 176 (OJ yl) zb
theorem Kk:SG Kj:=KZ BQ [] [] 52 [] [] [] [(8,[0,1,3,4,5,6,7,8,9,10,2,11,12,13,14,0,1,3,4,5,6,7,8,9,10,11,2,12,13,14,15,2,11])] [(2,⟨[1,2,3,6,8,9],[],[],[(0,[(16,.sc (.k .b))])],[39,48,49]⟩)] [] [] [] Tryz.func176 (by kernel_rfl) (xU (λ_ _ _=>by kernel_rfl))
def nF (w:List MV):Option MV:=aL w λcI bY dN cZ iq cN nk gh ej dA bU bI fR cJ mn xE dG bZ dH lA=>
 bd (yl (.agg [.i .i64 bY,.list dN]) (.i .i64 bI) (.i .i64 fR)) λrA=>
 gT rA λvs=>
 gC vs λJ3 lP=>
 gA J3 λcs=>
 Xe cs λjH L=>
 gC lP λm23 AE=>
 gI .i64 m23 λx=>
 gN AE<|
 some (.dx (.bW []) (au cI jH L cZ iq cN nk gh ej dA bU bI fR cJ mn x dG bZ dH lA))
def zd:GT:=bt 111 (Wp nF) Kj
theorem BR:SG zd:=Rk Kk 0 jV [] [(0,1000000)] 29 [] [] [] [(0,[0,1,2,3,4,5,6,7,8,9,10,11,12,13,14,15,16,17,18,19,20,21,22,23,24,25,26,27,28])] [] [] [] [] Tryz.func111 (by kernel_rfl) (by kernel_rfl) (tz λ_=>by kernel_rfl)
def vi (b id:MV):Option MV:=gA b λcs=>
 Xe cs λjH L=>
 gI .i64 id λRt=>
 bd (fW (.agg [.i .i64 jH,.list L]) (.i .i64 Rt)) λrA=>
 gT rA λvs=>
 UF vs λx x1=>
 bM (!x1) (
 some (.bW [.agg [.i .i64 jH,.list L],.i .i64 14])) (
 bd (gn 3 24 [.list L]) λaB=>
 gF aB λxs=>
 idx xs x λy=>
 gA y λmK=>
 Wd mK λId Span At=>
 idx xs x λy1=>
 gA y1 λBE=>
 Wd BE λId1 Ef aaB=>
 some (.bW [.agg [.i .i64 jH,.list (xs.set (sh x) (.agg [.i .i64 Id1,.i .i64 Ef,.i .i64 (bB .i64 (jH+Span))]))],.i .i64 0]))
def GN:GT:=bt 177 (ga vi) zd
theorem Hj:SG GN:=KZ BR [] [] 36 [] [] [] [(5,[0,1,2,3,4,5,6,7,8,9,10,11,12,13,14])] [] [] [] [] Tryz.func177 (by kernel_rfl) (bE (λ_ _=>by kernel_rfl))
def mr (w:List MV):Option MV:=aL w λcI bY dN cZ iq cN nk gh ej dA bU bI fR cJ mn xE dG bZ dH lA=>
 bd (vi (.agg [.i .i64 bY,.list dN]) (.i .i64 bI)) λrA=>
 gT rA λvs=>
 gC vs λJ3 lP=>
 gA J3 λcs=>
 Xe cs λjH L=>
 gC lP λm23 AE=>
 gI .i64 m23 λx=>
 gN AE<|
 some (.dx (.bW []) (au cI jH L cZ iq cN nk gh ej dA bU bI fR cJ mn x dG bZ dH lA))
def wV:GT:=bt 112 (Wp mr) GN
theorem AN:SG wV:=Rk Hj 0 jV [] [(0,1000000)] 24 [] [] [] [(0,[0,1,2,3,4,5,6,7,8,9,10,11,12,13,14,15,16,17,18,19,20,21,22,23])] [] [] [] [] Tryz.func112 (by kernel_rfl) (by kernel_rfl) (tz λ_=>by kernel_rfl)
def vj (b id:MV):Option MV:=gA b λcs=>
 Xe cs λjH L=>
 gI .i64 id λRt=>
 bd (fW (.agg [.i .i64 jH,.list L]) (.i .i64 Rt)) λrA=>
 gT rA λvs=>
 UF vs λx x1=>
 bM (!x1) (
 some (.bW [.agg [.i .i64 jH,.list L],.i .i64 14])) (
 bd (gn 3 24 [.list L]) λaB=>
 gF aB λxs=>
 bd (qz [.fresh xs,.i .i64 x,.i .i64 (bB .i64 (x+1))]) λbK=>
 gF bK λJT=>
 some (.bW [.agg [.i .i64 jH,.list JT],.i .i64 0]))
def GO:GT:=bt 178 (ga vj) wV
theorem Hk:SG GO:=o6 AN [] 26 [] [] [] Tryz.func178 (by kernel_rfl) (bE (λ_ _=>by kernel_rfl))
def ym (sA owner:MV):Option MV:=gA sA λcs=>
 gC cs λm jv=>
 gL m λL=>
 gN jv<|
 gI .i64 owner λFC=>
 cn L λlen=>
 bd (Loop (λkf=>
 gC kf λm1 qi=>
 gL m1 λgone=>
 JK qi λt x=>
 bM (decide (x<(len:Int))) (
 idx L x λy=>
 gA y λmK=>
 tw mK λPath Value Version il=>
 bd (
 bM (decide ((0:Int)<FC)) (
 some [.b (decide (il=FC))]) (
 some [.b false])) λvs=>
 gC vs λm8 Fx=>
 gB m8 λx1=>
 gN Fx<|
 bM x1 (
 cn gone λfB=>
 cn ([.s Path]:List MV) λmi=>
 cQ (decide ((fB+mi) *16<=2^46))<|
 some (.inl [.list (gone++([.s Path]:List MV)),.list t,.i .i64 (bB .i64 (x+1))])) (
 cn t λAz=>
 cn ([.agg (rP Path Value Version il)]:List MV) λJV=>
 cQ (decide ((Az+JV) *48<=2^46))<|
 some (.inl [.list gone,.list (t++([.agg (rP Path Value Version il)]:List MV)),.i .i64 (bB .i64 (x+1))]))) (
 some (.inr (2,[.list gone,.list t])))) [.list ([]:List MV),.list ([]:List MV),.i .i64 0]) λp=>
 cQ (AI p.1 2)<|
 gC p.2 λm9 Ay=>
 gL m9 λaaE=>
 gC Ay λSP wP=>
 gL SP λt1=>
 gN wP<|
 some (.bW [.agg [.list t1],.list aaE])
def Kl:GT:=bt 228 (ga ym) GO
theorem Km:SG Kl:=KZ Hk [] [] 40 [29,34] [] [] [] [(6,⟨[1,4,6,7,9,12,13,14],[30,35],[],[(0,[(25,.sc (.k .b))])],[30,35]⟩)] [] [(4,⟨[1,4,12,13],[],[(6,.sc (.own 30 9 true)),(7,.box [.own 35 98 true]),(14,.sc (.k (.i .i64)))],[(2,[(6,.sc (.own 30 9 true)),(7,.box [.own 35 98 true])])],[30,35]⟩)] [] Tryz.func228 (by kernel_rfl) (bE (λ_ _=>by kernel_rfl))
def kJ (w:List MV)(id:MV):Option MV:=gI .i64 id λRt=>
 aL w λcI bY dN cZ iq cN nk gh ej dA bU bI fR cJ mn xE dG bZ dH lA=>
 bd (ym (.agg [.list cI]) (.i .i64 Rt)) λrA=>
 gT rA λvs=>
 gC vs λJ3 lP=>
 gA J3 λcs=>
 gC cs λWr AD=>
 gL Wr λL=>
 gN AD<|
 gC lP λm22 wR=>
 gL m22 λx=>
 gN wR<|
 cn x λlen=>
 bd (Loop (λAE=>
 gC AE λm23 aat=>
 gI .i64 m23 λx1=>
 aL aat λx2 x3 x4 x5 x6 x7 x8 x9 Hg JE JF JG JH JI JJ Lw Lx Ly UM xs=>
 bM (decide (x1<(len:Int))) (
 idx x x1 λy=>
 gS y λXf=>
 cn xs λfB=>
 cn ([.agg [.i .i64 3,.s Xf]]:List MV) λmi=>
 cQ (decide ((fB+mi) *24<=2^46))<|
 some (.inl [.i .i64 (bB .i64 (x1+1)),.list x2,.i .i64 x3,.list x4,.list x5,.list x6,.i .i64 x7,.i .i64 x8,.i .i64 x9,.s Hg,.s JE,.i .i64 JF,.i .i64 JG,.i .i64 JH,.i .i64 JI,.i .i64 JJ,.i .i64 Lw,.s Lx,.i .i64 Ly,.list UM,.list (xs++([.agg [.i .i64 3,.s Xf]]:List MV))])) (
 some (.inr (2,(au x2 x3 x4 x5 x6 x7 x8 x9 Hg JE JF JG JH JI JJ Lw Lx Ly UM xs))))) [.i .i64 0,.list L,.i .i64 bY,.list dN,.list cZ,.list iq,.i .i64 cN,.i .i64 nk,.i .i64 gh,.s ej,.s dA,.i .i64 bU,.i .i64 bI,.i .i64 fR,.i .i64 cJ,.i .i64 mn,.i .i64 xE,.s dG,.i .i64 bZ,.list dH,.list lA]) λp=>
 cQ (AI p.1 2)<|
 cK .i64 .i64 .i64 .i64 .i64 .i64 .i64 .i64 .i64 .i64 .i64 p.2 λx22 x23 x24 x25 x26 x27 x28 x29 x30 x31 x32 x33 x34 x35 x36 x37 x38 x39 x40 JT=>
 some (.dx (.bW []) (au x22 x23 x24 x25 x26 x27 x28 x29 x30 x31 x32 x33 x34 x35 x36 x37 x38 x39 x40 JT))
def ze:GT:=bt 179 (cl2 kJ) Kl
theorem BS:SG ze:=Rk Km 0 jV [] [(0,1000000)] 41 [36] [] [] [] [] [] [(3,⟨[0,23,24],[],[(25,.sc (.k (.i .i64))),(1000000,.box [.k .l,.k (.i .i64),.k .l,.k .l,.k .l,.k (.i .i64),.k (.i .i64),.k (.i .i64),.k .s,.k .s,.k (.i .i64),.k (.i .i64),.k (.i .i64),.k (.i .i64),.k (.i .i64),.k (.i .i64),.k .s,.k (.i .i64),.k .l,.own 2000019 77 false])],[(2,[(1000000,.box [.k .l,.k (.i .i64),.k .l,.k .l,.k .l,.k (.i .i64),.k (.i .i64),.k (.i .i64),.k .s,.k .s,.k (.i .i64),.k (.i .i64),.k (.i .i64),.k (.i .i64),.k (.i .i64),.k (.i .i64),.k .s,.k (.i .i64),.k .l,.own 2000019 77 false])])],[]⟩)] [] Tryz.func179 (by kernel_rfl) (by kernel_rfl) (aak λ_ _=>by kernel_rfl)
def mu (w:List MV):Option MV:=aL w λcI bY dN cZ iq cN nk gh ej dA bU bI fR cJ mn xE dG bZ dH lA=>
 bd (vj (.agg [.i .i64 bY,.list dN]) (.i .i64 bI)) λrA=>
 gT rA λvs=>
 gC vs λJ3 lP=>
 gA J3 λcs=>
 Xe cs λjH L=>
 gC lP λm23 AE=>
 gI .i64 m23 λx=>
 gN AE<|
 bd (
 bM (decide (x=0)) (
 bd (kJ (au cI jH L cZ iq cN nk gh ej dA bU bI fR cJ mn x dG bZ dH lA) (.i .i64 bI)) λaB=>
 gW aB λx1 ls=>
 aL ls λlR kO qH nn vU np Cb vV tG qI kP kQ vW nq Cc xE1 qJ mq qK CA=>
 some (0,(au lR kO qH nn vU np Cb vV tG qI kP kQ vW nq Cc xE1 qJ mq qK CA))) (
 some (0,(au cI jH L cZ iq cN nk gh ej dA bU bI fR cJ mn x dG bZ dH lA)))) λp=>
 cQ (AI p.1 0)<|
 cK .i64 .i64 .i64 .i64 .i64 .i64 .i64 .i64 .i64 .i64 .i64 p.2 λx2 x3 x4 x5 x6 x7 x8 x9 Hg JE JF JG JH JI JJ Lw Lx Ly UM xs=>
 some (.dx (.bW []) (au x2 x3 x4 x5 x6 x7 x8 x9 Hg JE JF JG JH JI JJ Lw Lx Ly UM xs))
def wW:GT:=bt 113 (Wp mu) ze
theorem AO:SG wW:=Rk BS 0 jV [] [(0,1000000)] 37 [] [] [] [(0,[0,1,2,3,4,5,6,7,8,9,10,11,12,13,14,15,16,17,18,19,20,21,22,23])] [] [(2,⟨[0],[],[],[(0,[(1000000,.box [.k .l,.k (.i .i64),.k .l,.k .l,.k .l,.k (.i .i64),.k (.i .i64),.k (.i .i64),.k .s,.k .s,.k (.i .i64),.k (.i .i64),.k (.i .i64),.k (.i .i64),.k (.i .i64),.k (.i .i64),.k .s,.k (.i .i64),.k .l,.own 2000019 77 false])])],[]⟩)] [] [] Tryz.func113 (by kernel_rfl) (by kernel_rfl) (tz λ_=>by kernel_rfl)
def yn (b now:MV):Option MV:=gA b λcs=>
 Xe cs λjH L=>
 gI .i64 now λac6=>
 bM (decide (ac6<jH)) (
 some (.bW [.agg [.i .i64 jH,.list L],.list ([]:List MV),.i .i64 15])) (
 bM (decide ((1000000000:Int)<ac6)) (
 some (.bW [.agg [.i .i64 jH,.list L],.list ([]:List MV),.i .i64 5])) (
 cn L λlen=>
 bd (Loop (λqi=>
 gC qi λm2 vP=>
 gL m2 λgone=>
 gC vP λm3 vQ=>
 gI .i64 m3 λout=>
 JK vQ λEg x=>
 bM (decide (x<(len:Int))) (
 idx L x λy=>
 gA y λmK=>
 Wd mK λId Span At=>
 bM (decide (At<=ac6)) (
 cn gone λfB=>
 cn ([.i .i64 Id]:List MV) λmi=>
 cQ (decide ((fB+mi) *8<=2^46))<|
 some (.inl [.list (gone++([.i .i64 Id]:List MV)),.i .i64 out,.list Eg,.i .i64 (bB .i64 (x+1))])) (
 cn Eg λAz=>
 cn ([.agg [.i .i64 Id,.i .i64 Span,.i .i64 At]]:List MV) λJV=>
 cQ (decide ((Az+JV) *24<=2^46))<|
 some (.inl [.list gone,.i .i64 out,.list (Eg++([.agg [.i .i64 Id,.i .i64 Span,.i .i64 At]]:List MV)),.i .i64 (bB .i64 (x+1))]))) (
 some (.inr (3,[.list gone,.i .i64 out,.list Eg])))) [.list ([]:List MV),.i .i64 ac6,.list ([]:List MV),.i .i64 0]) λp=>
 cQ (AI p.1 3)<|
 gC p.2 λm9 Ay=>
 gL m9 λaaE=>
 Xe Ay λano anp=>
 some (.bW [.agg [.i .i64 ano,.list anp],.list aaE,.i .i64 0])))
def Kn:GT:=bt 180 (ga yn) wW
theorem Ko:SG Kn:=KZ AO [] [] 48 [37,42] [] [] [] [] [] [(8,⟨[1,4,24,25],[],[(7,.sc (.own 38 3 true)),(8,.box [.k (.i .i64),.own 43 126 true]),(26,.sc (.k (.i .i64)))],[(3,[(7,.sc (.own 38 3 true)),(8,.box [.k (.i .i64),.own 43 126 true])])],[38,43]⟩)] [] Tryz.func180 (by kernel_rfl) (bE (λ_ _=>by kernel_rfl))
def nG (w:List MV):Option MV:=aL w λcI bY dN cZ iq cN nk gh ej dA bU bI fR cJ mn xE dG bZ dH lA=>
 bd (yn (.agg [.i .i64 bY,.list dN]) (.i .i64 fR)) λrA=>
 gT rA λvs=>
 gC vs λJ3 lP=>
 gA J3 λcs=>
 Xe cs λjH L=>
 JK lP λx x1=>
 bM (!decide (x1=0)) (
 some (.dx (.bW []) (au cI bY dN cZ iq cN nk gh ej dA bU bI fR cJ mn x1 dG bZ dH lA))) (
 cn x λlen=>
 bd (Loop (λQH=>
 gC QH λm25 aau=>
 gI .i64 m25 λx2=>
 aL aau λx3 x4 x5 x6 x7 x8 x9 Hg JE JF JG JH JI JJ Lw Lx Ly UM Xf xs=>
 bM (decide (x2<(len:Int))) (
 idx x x2 λy=>
 gI .i64 y λx22=>
 bd (kJ (au x3 x4 x5 x6 x7 x8 x9 Hg JE JF JG JH JI JJ Lw Lx Ly UM Xf xs) (.i .i64 x22)) λaB=>
 gW aB λx23 ls=>
 aL ls λlR kO qH nn vU np Cb vV tG qI kP kQ vW nq Cc xE1 qJ mq qK CA=>
 some (.inl [.i .i64 (bB .i64 (x2+1)),.list lR,.i .i64 kO,.list qH,.list nn,.list vU,.i .i64 np,.i .i64 Cb,.i .i64 vV,.s tG,.s qI,.i .i64 kP,.i .i64 kQ,.i .i64 vW,.i .i64 nq,.i .i64 Cc,.i .i64 xE1,.s qJ,.i .i64 mq,.list qK,.list CA])) (
 some (.inr (2,(au x3 x4 x5 x6 x7 x8 x9 Hg JE JF JG JH JI JJ Lw Lx Ly UM Xf xs))))) [.i .i64 0,.list cI,.i .i64 jH,.list L,.list cZ,.list iq,.i .i64 cN,.i .i64 nk,.i .i64 gh,.s ej,.s dA,.i .i64 bU,.i .i64 bI,.i .i64 fR,.i .i64 cJ,.i .i64 mn,.i .i64 x1,.s dG,.i .i64 jH,.list dH,.list lA]) λp=>
 cQ (AI p.1 2)<|
 cK .i64 .i64 .i64 .i64 .i64 .i64 .i64 .i64 .i64 .i64 .i64 p.2 λx24 x25 x26 x27 x28 x29 x30 x31 x32 x33 x34 x35 x36 x37 x38 x39 x40 x41 x42 JT=>
 some (.dx (.bW []) (au x24 x25 x26 x27 x28 x29 x30 x31 x32 x33 x34 x35 x36 x37 x38 x39 x40 x41 x42 JT)))
def zf:GT:=bt 114 (Wp nG) Kn
theorem BT:SG zf:=Rk Ko 0 jV [] [(0,1000000)] 50 [] [33] [(1,[2])] [(0,[0,1,2,3,4,5,6,7,8,9,10,11,12,13,14,15,16,17,18]),(3,[0,1,2,3,4,5,6,7,8,9,10,11,12])] [] [] [(5,⟨[0,40,41],[],[(42,.sc (.k (.i .i64))),(1000000,.box [.k .l,.k (.i .i64),.k .l,.k .l,.k .l,.k (.i .i64),.k (.i .i64),.k (.i .i64),.k .s,.k .s,.k (.i .i64),.k (.i .i64),.k (.i .i64),.k (.i .i64),.k (.i .i64),.k (.i .i64),.k .s,.k (.i .i64),.k .l,.own 2000019 77 false])],[(2,[(1000000,.box [.k .l,.k (.i .i64),.k .l,.k .l,.k .l,.k (.i .i64),.k (.i .i64),.k (.i .i64),.k .s,.k .s,.k (.i .i64),.k (.i .i64),.k (.i .i64),.k (.i .i64),.k (.i .i64),.k (.i .i64),.k .s,.k (.i .i64),.k .l,.own 2000019 77 false])])],[]⟩)] [] Tryz.func114 (by kernel_rfl) (by kernel_rfl) (tz λ_=>by kernel_rfl)
def gu (sA v:MV):Option MV:=gL sA λoM=>
 gA v λcs=>
 We cs λPath Client Kids=>
 cn oM λlen=>
 bd (Loop (λvP=>
 gC vP λm3 vQ=>
 gI .i64 m3 λx=>
 gN vQ<|
 bM (decide (x<(len:Int))) (
 idx oM x λy=>
 gA y λmK=>
 We mK λot iX ajZ=>
 bM ((decide (Path=ot))&&((decide (Client=iX))&&(decide (Kids=ajZ)))) (
 some (.inr (1,[.i .i64 x]))) (
 some (.inl [.i .i64 (bB .i64 (x+1))]))) (
 some (.inr (2,[])))) [.i .i64 0]) λp=>
 bM (AI p.1 2) (
 gN p.2<|
 some (.i .i64 (-1))) (
 cQ (AI p.1 1)<|
 gC p.2 λm7 xV=>
 gI .i64 m7 λx1=>
 gN xV<|
 some (.i .i64 x1))
def pg:GT:=bt 250 (ga gu) zf
theorem tT:SG pg:=KZ BT [] [] 19 [] [] [] [(4,[0,1,2,3,4,5])] [] [] [(2,⟨[0,3,7],[],[(8,.sc (.k (.i .i64)))],[(1,[(4,.sc (.k (.i .i64)))]),(2,[])],[]⟩)] [] Tryz.func250 (by kernel_rfl) (bE (λ_ _=>by kernel_rfl))
def eP (sA v:MV):Option MV:=gL sA λoM=>
 gA v λcs=>
 We cs λPath Client Kids=>
 bd (gu (.list oM) (.agg [.s Path,.i .i64 Client,.b Kids])) λrA=>
 gI .i64 rA λx=>
 some (.b (decide ((0:Int)<=x)))
def mG:GT:=bt 229 (ga eP) pg
theorem rh:SG mG:=o6 tT [] 9 [] [] [] Tryz.func229 (by kernel_rfl) (bE (λ_ _=>by kernel_rfl))
def Bx (t w:MV):Option MV:=gA t λcs=>
 gC cs λm jv=>
 gL m λL=>
 gN jv<|
 gA w λmK=>
 We mK λPath Client Kids=>
 bd (lQ (.s Path)) λrA=>
 gB rA λx=>
 bM (!x) (
 some (.bW [.agg [.list L],.i .i64 13])) (
 bM (decide (Client<0)) (
 some (.bW [.agg [.list L],.i .i64 1])) (
 bd (eP (.list L) (.agg [.s Path,.i .i64 Client,.b Kids])) λaB=>
 gB aB λx1=>
 bM x1 (
 some (.bW [.agg [.list L],.i .i64 0])) (
 cn L λlen=>
 bM (decide ((200:Int)<=(len:Int))) (
 some (.bW [.agg [.list L],.i .i64 9])) (
 both (
 bd (gn 3 32 [.list L]) λbK=>
 gF bK λxs=>
 cn xs λfB=>
 cn ([.agg [.s Path,.i .i64 Client,.b Kids]]:List MV) λmi=>
 cQ (decide ((fB+mi) *32<=2^46))<|
 some (.bW [.agg [.list (xs++([.agg [.s Path,.i .i64 Client,.b Kids]]:List MV))],.i .i64 0])) (
 bd (gn 3 32 [.list L]) λqC=>
 gF qC λJT=>
 cn JT λAz=>
 cn ([.agg [.s Path,.i .i64 Client,.b Kids]]:List MV) λJV=>
 cQ (decide ((Az+JV) *32<=2^46))<|
 some (.bW [.agg [.list (JT++([.agg [.s Path,.i .i64 Client,.b Kids]]:List MV))],.i .i64 0]))))))
def Np:GT:=bt 181 (ga Bx) mG
theorem LM:SG Np:=KZ rh [] [] 36 [33] [] [] [(9,[0,1,3,2,4,5,6,7,8,0,1,3,4,2,5,6,7,8,9,2,4])] [] [] [] [] Tryz.func181 (by kernel_rfl) (bE (λ_ _=>by kernel_rfl))
def mw (w:List MV):Option MV:=aL w λcI bY dN cZ iq cN nk gh ej dA bU bI fR cJ mn xE dG bZ dH lA=>
 bd (Bx (.agg [.list cZ]) (.agg [.s ej,.i .i64 cN,.b (decide (gh=11))])) λrA=>
 gT rA λvs=>
 gC vs λJ3 lP=>
 gA J3 λcs=>
 gC cs λWr AD=>
 gL Wr λL=>
 gN AD<|
 gC lP λm22 wR=>
 gI .i64 m22 λx=>
 gN wR<|
 some (.dx (.bW []) (au cI bY dN L iq cN nk gh ej dA bU bI fR cJ mn x dG bZ dH lA))
def wX:GT:=bt 115 (Wp mw) Np
theorem AP:SG wX:=Rk LM 0 jV [] [(0,1000000)] 38 [] [] [] [(0,[0,1,2,3,4,5,6,7,8,9,10,11,12,13,14,15,16,17,18]),(1,[0,1,2,3,4,5,6,7,8,9,10,11,12,13,14,15,16,17,18,19])] [] [] [] [] Tryz.func115 (by kernel_rfl) (by kernel_rfl) (tz λ_=>by kernel_rfl)
def yo:Option MV:=some (.list ([.func 105 [],.func 106 [],.func 107 [],.func 108 [],.func 109 [],.func 110 [],.func 111 [],.func 112 [],.func 113 [],.func 114 [],.func 115 [],.func 115 []]:List MV))
def Kp:GT:=bt 59 (SL yo) wX
theorem Kq:SG Kp:=KZ AP [] [] 2 [1] [] [] [] [] [] [] [] Tryz.func59 (by kernel_rfl) (Eb (by kernel_rfl))
def qL (c w:MV):Option MV:=gA c λcs=>
 gC cs λm jv=>
 gI .i64 m λKind=>
 gC jv λm1 kf=>
 gS m1 λPath=>
 gN kf<|
 gA w λmK=>
 We mK λot Client Kids=>
 bd (
 bM (decide (Kind<1)) (
 some [.b true]) (
 bM (decide ((3:Int)<Kind)) (
 some [.b true]) (
 bd (lQ (.s Path)) λrA=>
 gB rA λx=>
 some [.b (!x)]))) λvs=>
 gC vs λm5 xZ=>
 gB m5 λx1=>
 gN xZ<|
 bM x1 (
 some (.b false)) (
 bM (!Kids) (
 some (.b (decide (Path=ot)))) (
 bd (re (.s Path)) λaB=>
 gT aB λmX=>
 gC mX λm6 Kb=>
 gS m6 λx2=>
 gC Kb λm7 AH=>
 gI .i64 m7 λx3=>
 gN AH<|
 bd (
 bM (decide (x3=0)) (
 bM (!decide (Kind=2)) (
 some [.b (decide (x2=ot))]) (
 some [.b false])) (
 some [.b false])) λuq=>
 gC uq λm8 xV=>
 gB m8 λx4=>
 gN xV<|
 some (.b x4)))
def qM:GT:=bt 27 (ga qL) Kp
theorem Ep:SG qM:=o6 Kq [] 48 [(6,⟨[2,3,5,6],[],[],[(0,[(4,.sc (.k .b))])],[]⟩),(1,⟨[2,3],[],[],[(0,[(20,.sc (.k .b))])],[]⟩)] [] [] Tryz.func27 (by kernel_rfl) (bE (λ_ _=>by kernel_rfl))
def Cd:Ctx:=UK qM [(2,1000002)] 17 [14] [] [] [] [] [(3,⟨[1,2,3,5],[],[],[(0,[(1000002,.box [.own 2000000 79 false])])],[]⟩)] [] []
def pi (w:MV)(c:MV)(c1:List MV):Option MV:=gA w λcs=>
 We cs λPath Client Kids=>
 gP c λmK=>
 gC mK λm3 vP=>
 gI .i64 m3 λKind=>
 gC vP λm4 vQ=>
 gS m4 λot=>
 gN vQ<|
 gC c1 λm5 xZ=>
 gL m5 λx=>
 gN xZ<|
 bd (qL (.agg [.i .i64 Kind,.s ot]) (.agg [.s Path,.i .i64 Client,.b Kids])) λrA=>
 gB rA λx1=>
 bd (
 bM x1 (
 cn x λlen=>
 cn ([.agg [.s Path,.i .i64 Client,.b Kids,.i .i64 Kind,.s ot]]:List MV) λfB=>
 cQ (decide ((len+fB) *56<=2^46))<|
 some (0,[.list (x++([.agg [.s Path,.i .i64 Client,.b Kids,.i .i64 Kind,.s ot]]:List MV))])) (
 some (0,[.list x]))) λp=>
 cQ (AI p.1 0)<|
 gC p.2 λm6 Kb=>
 gL m6 λxs=>
 gN Kb<|
 some (.dx (.b x1) [.list xs])
theorem Hl (w:MV)(c:MV)(c1:List MV):Mi Cd [[.i .i64,.s],[]] 2 UJ Tryz.f118 [w,c,.cell (.func 0 c1)]=pi w c c1:=by kernel_rfl
abbrev yp:List MV->Option MV:=λms=>match ms with|[a0,a1,.cell (.func off a2)]=>(match AI off 0 with|true=>pi a0 a1 a2|false=>none)|_=>none
theorem Hm {ms:List MV}{r:MV}(h:yp ms=some r): ∃c':Ctx,DT cx c'/\c'.g=qM/\Ua c' 118 Tryz.f118 [[.i .i64,.s],[]]=true/\Mi c' [[.i .i64,.s],[]] 2 UJ Tryz.f118 ms=some r:=by
 unfold yp at h;split at h
 ·rename_i a0 a1 off a2;cases ho0:AI off 0 with
  |true=>have:=No ho0;subst this;exact ⟨Cd,⟨rfl,rfl,rfl,rfl,rfl,rfl,rfl,rfl,rfl⟩,rfl,by kernel_rfl,(Hl _ _ _).trans h⟩
  |false=>
  rw [ho0] at h;simp only at h;cases h
 ·cases h
def yq:GT:=bt 118 yp qM
theorem FF:SG yq:=Ep.Rk (pos:=2) (ks:=UJ) (bR:=[[.i .i64,.s],[]]) nR UD UI UL vN HV Tryz.func118 (by kernel_rfl) (λ_=>rfl) Hm
def Er:GT:=yq
theorem yr (x0:MV)(x1:MV)(x2:List MV):Er 118 [x0,x1,.cell (.func 0 x2)]=pi x0 x1 x2:=by kernel_rfl
def yt (t lA:MV):Option MV:=gA t λcs=>
 gC cs λm jv=>
 gL m λL=>
 gN jv<|
 gL lA λCA=>
 bd (gn 3 32 [.list L]) λrA=>
 gF rA λxs=>
 cn CA λlen=>
 bd (Loop (λkf=>
 gC kf λm1 qi=>
 gL m1 λleft=>
 JK qi λout x=>
 bM (decide (x<(len:Int))) (
 idx CA x λy=>
 gA y λmK=>
 gC mK λm4 xZ=>
 gI .i64 m4 λKind=>
 gC xZ λm5 Kb=>
 gS m5 λPath=>
 gN Kb<|
 cQ (left.all G0)<|
 bd (na (Mh Er 118 [.rp [.i .i64 Kind,.s Path]]) [.list out] left) λaB=>
 gC aB.2 λm6 AH=>
 gL m6 λx1=>
 gN AH<|
 some (.inl [.list aB.1,.list x1,.i .i64 (bB .i64 (x+1))])) (
 some (.inr (2,[.list left,.list out])))) [.list xs,.list ([]:List MV),.i .i64 0]) λp=>
 cQ (AI p.1 2)<|
 gC p.2 λm7 xV=>
 gL m7 λaj0=>
 gC xV λm8 Fx=>
 gL m8 λEg=>
 gN Fx<|
 some (.bW [.agg [.list aj0],.list Eg])
def CG:GT:=bt 60 (ga yt) yq
theorem Kr:SG CG:=KZ FF [] [] 26 [] [25] [(8,[7])] [(8,[0,1,2,3,4])] [] [] [(4,⟨[4,13,14],[],[(6,.sc (.own 12 75 false)),(7,.box [.own 2000000 79 false]),(15,.sc (.k (.i .i64)))],[(2,[(6,.sc (.own 12 75 false)),(7,.box [.own 2000000 79 false])])],[]⟩)] [] Tryz.func60 (by kernel_rfl) (bE (λ_ _=>by kernel_rfl))
def db:GT:=CG
theorem rj (x0:List MV):db 105 [.cell (.func 0 x0)]=kj x0:=by kernel_rfl
theorem rz (x0:List MV):db 106 [.cell (.func 0 x0)]=lm x0:=by kernel_rfl
theorem uy (x0:List MV):db 107 [.cell (.func 0 x0)]=pe x0:=by kernel_rfl
theorem uA (x0:List MV):db 108 [.cell (.func 0 x0)]=pf x0:=by kernel_rfl
theorem rB (x0:List MV):db 109 [.cell (.func 0 x0)]=ln x0:=by kernel_rfl
theorem tU (x0:List MV):db 110 [.cell (.func 0 x0)]=nE x0:=by kernel_rfl
theorem tV (x0:List MV):db 111 [.cell (.func 0 x0)]=nF x0:=by kernel_rfl
theorem sr (x0:List MV):db 112 [.cell (.func 0 x0)]=mr x0:=by kernel_rfl
theorem su (x0:List MV):db 113 [.cell (.func 0 x0)]=mu x0:=by kernel_rfl
theorem tW (x0:List MV):db 114 [.cell (.func 0 x0)]=nG x0:=by kernel_rfl
theorem sv (x0:List MV):db 115 [.cell (.func 0 x0)]=mw x0:=by kernel_rfl
def vk (a a1:MV):Option MV:=gA a λcs=>
 vO cs λmS jx rQ mT Seen=>
 gA a1 λmK=>
 eW mK λClient Seq Kind Path Value Version Session Span=>
 bd (ml (.agg (mR mS jx rQ mT Seen)) (.agg (cv Client Seq Kind Path Value Version Session Span))) λrA=>
 gT rA λvs=>
 gC vs λm13 JU=>
 gA m13 λBE=>
 qE BE λiX Aw E kg dM Names=>
 gC JU λJ3 lP=>
 gB J3 λx=>
 gN lP<|
 bM x (
 some (.bW [.agg (mR mS jx rQ mT Seen),.agg (ke iX Aw E kg dM Names),.list ([]:List MV)])) (
 bd (yo) λaB=>
 gL aB λx1=>
 idx x1 Kind λy=>
 gR y λx2=>
 Ru x2 λfn cap=>
 gN cap<|
 bd (K0 [105,106,107,108,109,110,111,112,113,114,115] fn λk=>db k [.cell (.func 0 (au mS jx rQ mT Seen Client Seq Kind Path Value Version Session Span iX Aw E kg dM Names ([]:List MV)))]) λbK=>
 gW bK λx3 ls=>
 aL ls λcI bY dN cZ iq cN nk gh ej dA bU bI fR cJ mn xE dG bZ dH lA=>
 bd (yt (.agg [.list cZ]) (.list lA)) λqC=>
 gT qC λmX=>
 gC mX λm41 QI=>
 gA m41 λvE=>
 gC vE λm42 QJ=>
 gL m42 λL=>
 gN QJ<|
 gC QI λm43 QK=>
 gL m43 λx4=>
 gN QK<|
 bd (gn 6 72 [.list Seen]) λHT=>
 gF HT λxs=>
 bd (jN (.agg (mR mS jx rQ mT Seen)) (.i .i64 Client)) λHU=>
 gT HU λuq=>
 UF uq λx5 x6=>
 bd (
 bM x6 (
 idx xs x5 λy1=>
 gA y1 λcs4=>
 qE cs4 λakZ ar2 E1 af6 QL aaq=>
 some (0,(au cI bY dN L (xs.set (sh x5) (.agg (ke cJ mn xE dG bZ dH))) cN nk gh ej dA bU bI fR cJ mn xE dG bZ dH lA))) (
 bd (j8 72 [.fresh xs,.i .i64 x5,.fresh ([.agg (ke cJ mn xE dG bZ dH)]:List MV)]) λzL=>
 gF zL λJT=>
 some (0,(au cI bY dN L JT cN nk gh ej dA bU bI fR cJ mn xE dG bZ dH lA)))) λp=>
 cQ (AI p.1 0)<|
 cK .i64 .i64 .i64 .i64 .i64 .i64 .i64 .i64 .i64 .i64 .i64 p.2 λx7 x8 x9 Hg xs2 JE JF JG JH JI JJ Lw Lx Ly UM Xf x22 x23 x24 xs3=>
 both (
 some (.bW [.agg (mR x7 x8 x9 Hg xs2),.agg (ke Ly UM Xf x22 x23 x24),.list x4])) (
 some (.bW [.agg (mR x7 x8 x9 Hg xs2),.agg (ke Ly UM Xf x22 x23 x24),.list x4])))
def GP:GT:=bt 18 (ga vk) CG
theorem Hn:SG GP:=KZ Kr [] [] 103 [] [21] [(2,[7])] [(3,[0,1,2,3,4]),(5,[1,2,5,0,3,4,6]),(6,[0,1,2,3,4,5,6,7,8,9,10,11,12,13,14,15]),(7,[0,1,2,3,4,5,6,7,8,9,10,11,12,13]),(10,[0,1,2,3,4,5,6,7,8,9,10,11]),(11,[0,1,2,3,4,5,6,7,8,9,10,11,12,13,14,15,16]),(12,[0,1,2,3,4,5,6,8,9,7,10,11,0,1,2,3,4,5,6,7,8,9,10,11,12,9,7])] [] [(10,⟨[4,5,11,12],[],[],[(0,[(26,.box [.k .l,.k (.i .i64),.k .l,.k .l,.own 52 57 false,.k (.i .i64),.k (.i .i64),.k (.i .i64),.k .s,.k .s,.k (.i .i64),.k (.i .i64),.k (.i .i64),.k (.i .i64),.k (.i .i64),.k (.i .i64),.k .s,.k (.i .i64),.k .l,.own 2000019 77 true]),(9,.pt 26 0)])],[89,90,2000019]⟩)] [] [105,106,107,108,109,110,111,112,113,114,115] Tryz.func18 (by kernel_rfl) (bE (λ_ _=>by kernel_rfl))
def yu (rA lA:MV):Option MV:=gA rA λcs=>
 vO cs λmS jx rQ mT Seen=>
 gL lA λCA=>
 cn CA λlen=>
 bd (Loop (λxZ=>
 gC xZ λm5 Kb=>
 gL m5 λaB=>
 gC Kb λm6 AH=>
 gI .i64 m6 λbK=>
 gC AH λm7 xV=>
 gL m7 λqC=>
 gC xV λm8 Fx=>
 gL m8 λHT=>
 gC Fx λm9 Ay=>
 gL m9 λHU=>
 gC Ay λSP wP=>
 gL SP λout=>
 JK wP λevents x=>
 bM (decide (x<(len:Int))) (
 idx CA x λy=>
 gA y λmK=>
 eW mK λClient Seq Kind Path Value Version Session Span=>
 bd (vk (.agg (mR aB bK qC HT HU)) (.agg (cv Client Seq Kind Path Value Version Session Span))) λzL=>
 gT zL λvs=>
 gC vs λWr wR=>
 gA Wr λBE=>
 vO BE λEs Et OT HW UN=>
 gC wR λm27 QF=>
 gA m27 λvE=>
 qE vE λiX Aw E kg dM Names=>
 gC QF λm34 aj1=>
 gL m34 λx1=>
 gN aj1<|
 cn out λfB=>
 cn ([.agg (ke iX Aw E kg dM Names)]:List MV) λmi=>
 cQ (decide ((fB+mi) *72<=2^46))<|
 cQ (pR 5 x1)<|
 cn events λAz=>
 cn x1 λJV=>
 cQ (decide ((Az+JV) *56<=2^46))<|
 some (.inl [.list Es,.i .i64 Et,.list OT,.list HW,.list UN,.list (out++([.agg (ke iX Aw E kg dM Names)]:List MV)),.list (events++x1),.i .i64 (bB .i64 (x+1))])) (
 some (.inr (2,[.list aB,.i .i64 bK,.list qC,.list HT,.list HU,.list out,.list events])))) [.list mS,.i .i64 jx,.list rQ,.list mT,.list Seen,.list ([]:List MV),.list ([]:List MV),.i .i64 0]) λp=>
 cQ (AI p.1 2)<|
 gC p.2 λm35 aav=>
 gL m35 λUC=>
 gC aav λm36 aaw=>
 gI .i64 m36 λV8=>
 gC aaw λm37 aax=>
 gL m37 λrA9=>
 gC aax λm38 aay=>
 gL m38 λanq=>
 gC aay λm39 aaz=>
 gL m39 λanr=>
 gC aaz λm40 QI=>
 gL m40 λEg=>
 gC QI λm41 QJ=>
 gL m41 λac7=>
 gN QJ<|
 some (.bW [.agg (mR UC V8 rA9 anq anr),.list Eg,.list ac7])
def Ks:GT:=bt 28 (ga yu) GP
theorem Kt:SG Ks:=KZ Hn [] [] 39 [29] [] [] [] [] [] [(4,⟨[4,14,15],[],[(2,.box [.k .l,.k (.i .i64),.k .l,.k .l,.k .l]),(7,.sc (.own 30 57 true)),(8,.sc (.own 33 79 true)),(16,.sc (.k (.i .i64)))],[(2,[(2,.box [.k .l,.k (.i .i64),.k .l,.k .l,.k .l]),(7,.sc (.own 30 57 true)),(8,.sc (.own 33 79 true))])],[30,33]⟩)] [] Tryz.func28 (by kernel_rfl) (bE (λ_ _=>by kernel_rfl))
def vl (rA sA:MV):Option MV:=gA rA λcs=>
 vO cs λmS jx rQ mT Seen=>
 gS sA λoM=>
 bd (kh (.s oM)) λaB=>
 gT aB λvs=>
 JK vs λx x1=>
 bM (!decide (x1=0)) (
 some (.bW [.agg (mR mS jx rQ mT Seen),.list ([]:List MV),.i .i64 x1])) (
 bd (yu (.agg (mR mS jx rQ mT Seen)) (.list x)) λbK=>
 gT bK λmX=>
 gC mX λm7 AH=>
 gA m7 λmK=>
 vO mK λEs Et OT HW UN=>
 gC AH λm13 JU=>
 gL m13 λx2=>
 gC JU λm14 aaD=>
 gL m14 λx3=>
 gN aaD<|
 some (.bW [.agg (mR Es Et OT HW UN),.list x2,.i .i64 0]))
def GQ:GT:=bt 46 (ga vl) Ks
theorem Ho:SG GQ:=o6 Kt [] 30 [] [] [] Tryz.func46 (by kernel_rfl) (bE (λ_ _=>by kernel_rfl))
def wY:Option MV:=bd (mj (.list ([.agg (cv 1 1 1 ([47,97]:List UInt8) ([]:List UInt8) 0 0 0)]:List MV))) λrA=>
 gT rA λvs=>
 gC vs λm jv=>
 gS m λx=>
 gC jv λm1 kf=>
 gI .i64 m1 λx1=>
 gN kf<|
 bd (Bs) λaB=>
 gA aB λcs=>
 vO cs λmS jx rQ mT Seen=>
 bd (vl (.agg (mR mS jx rQ mT Seen)) (.s x)) λbK=>
 gT bK λmX=>
 gC mX λm7 AH=>
 gA m7 λmK=>
 vO mK λEs Et OT HW UN=>
 JK AH λx2 x3=>
 bd (kh (.s ([]:List UInt8))) λqC=>
 gT qC λuq=>
 JK uq λx4 x5=>
 bd (
 bM (decide (x1=0)) (
 bM (decide (x3=0)) (
 cn x2 λlen=>
 bM (decide ((len:Int)=1)) (
 cn Es λfB=>
 bM (decide ((fB:Int)=2)) (
 some [.b (decide (x5=3))]) (
 some [.b false])) (
 some [.b false])) (
 some [.b false])) (
 some [.b false])) λvs3=>
 gC vs3 λm17 aam=>
 gB m17 λx6=>
 gN aam<|
 some (.b x6)
def Nq:GT:=bt 40 (SL wY) GQ
theorem LN:SG Nq:=KZ Ho [] [] 47 [10] [] [] [] [(4,⟨[2,3,4,5,7],[],[],[(0,[(0,.sc (.k .b))])],[]⟩)] [] [] [] Tryz.func40 (by kernel_rfl) (Eb (by kernel_rfl))
def Eu (a b:MV):Option MV:=gL a λa1=>
 gL b λb1=>
 cn a1 λlen=>
 cn b1 λfB=>
 bM (!decide ((len:Int)=(fB:Int))) (
 some (.b false)) (
 bd (Loop (λjv=>
 gC jv λm kf=>
 gI .i64 m λi=>
 gN kf<|
 cn a1 λmi=>
 bM (decide (i<(mi:Int))) (
 idx a1 i λy=>
 gA y λcs=>
 eW cs λClient Seq Kind Path Value Version Session Span=>
 idx b1 i λy1=>
 gA y1 λmK=>
 eW mK λiX Aw QE ot kg dM Ax Ef=>
 bM (!((decide (Client=iX))&&((decide (Seq=Aw))&&((decide (Kind=QE))&&((decide (Path=ot))&&((decide (Value=kg))&&((decide (Version=dM))&&((decide (Session=Ax))&&(decide (Span=Ef)))))))))) (
 some (.inr (1,[.b false]))) (
 some (.inl [.i .i64 (bB .i64 (i+1))]))) (
 some (.inr (2,[])))) [.i .i64 0]) λp=>
 bM (AI p.1 2) (
 gN p.2<|
 some (.b true)) (
 cQ (AI p.1 1)<|
 gC p.2 λm17 aal=>
 gB m17 λx=>
 gN aal<|
 some (.b x)))
def QM:GT:=bt 43 (ga Eu) Nq
theorem OU:SG QM:=KZ LN [] [] 26 [] [] [] [(6,[0,1,2,3,4,5,6,7,8])] [] [] [(4,⟨[0,1],[],[(5,.sc (.k (.i .i64)))],[(1,[(4,.sc (.k .b))]),(2,[])],[]⟩)] [] Tryz.func43 (by kernel_rfl) (bE (λ_ _=>by kernel_rfl))
def Ew (lA:MV):Option MV:=gL lA λCA=>
 bd (Loop (λjv=>
 JK jv λout i=>
 cn CA λlen=>
 bM (decide (i<(len:Int))) (
 idx CA i λy=>
 gA y λcs=>
 eW cs λClient Seq Kind Path Value Version Session Span=>
 cn out λfB=>
 cn ([.agg (cv Client Seq Kind Path Value Version Session Span)]:List MV) λmi=>
 cQ (decide ((fB+mi) *80<=2^46))<|
 some (.inl [.list (out++([.agg (cv Client Seq Kind Path Value Version Session Span)]:List MV)),.i .i64 (bB .i64 (i+1))])) (
 some (.inr (2,[.list out])))) [.list ([]:List MV),.i .i64 0]) λp=>
 cQ (AI p.1 2)<|
 gC p.2 λSP wP=>
 gL SP λEg=>
 gN wP<|
 some (.list Eg)
def UO:GT:=bt 44 (r8 Ew) QM
theorem QN:SG UO:=KZ OU [] [] 38 [35] [] [] [] [] [] [(3,⟨[0],[],[(3,.sc (.own 6 65 true)),(4,.sc (.k (.i .i64)))],[(2,[(3,.sc (.own 6 65 true))])],[6]⟩)] [] Tryz.func44 (by kernel_rfl) (eN (λ_=>by kernel_rfl))
def vY (a a1:MV):Option MV:=gL a λa2=>
 gS a1 λsi=>
 bd (
 bd (Bp (.list a2)) λrA=>
 gB rA λx=>
 bM (!x) (
 some [.b true]) (
 some [.b (decide ((6000:Int)<(si.length:Int)))])) λvs=>
 gC vs λm jv=>
 gB m λx1=>
 gN jv<|
 bM x1 (
 bd (wY) λaB=>
 gB aB λx2=>
 some (.b x2)) (
 bd (mj (.list a2)) λbK=>
 gT bK λmX=>
 gC mX λm1 kf=>
 gS m1 λx3=>
 gC kf λm2 qi=>
 gI .i64 m2 λx4=>
 gN qi<|
 bd (kh (.s x3)) λqC=>
 gT qC λuq=>
 JK uq λx5 x6=>
 bd (
 bM (decide (x4=0)) (
 bM (!decide (x6=0)) (
 some [.b true]) (
 bd (Ew (.list x5)) λHT=>
 gL HT λx7=>
 bd (Ew (.list a2)) λHU=>
 gL HU λx8=>
 bd (Eu (.list x7) (.list x8)) λzL=>
 gB zL λx9=>
 bM (!x9) (
 some [.b true]) (
 bM (!decide (x4=0)) (
 some [.b (!decide (x3=([]:List UInt8)))]) (
 some [.b false])))) (
 bM (!decide (x4=0)) (
 some [.b (!decide (x3=([]:List UInt8)))]) (
 some [.b false]))) λvs3=>
 gC vs3 λm5 xZ=>
 gB m5 λHg=>
 gN xZ<|
 bM Hg (
 some (.b false)) (
 bd (kh (.s si)) λUC=>
 gT UC λvs4=>
 JK vs4 λJE JF=>
 bd (mj (.list JE)) λV8=>
 gT V8 λvs5=>
 gC vs5 λm8 xV=>
 gS m8 λJG=>
 gC xV λm9 Fx=>
 gI .i64 m9 λJH=>
 gN Fx<|
 bd (
 bd (wY) λrA9=>
 gB rA9 λJI=>
 bM JI (
 bM (!decide (JF=0)) (
 some [.b true]) (
 bM (decide (JH=0)) (
 some [.b (decide (JG=si))]) (
 some [.b false]))) (
 some [.b false])) λvs6=>
 gC vs6 λSP Ay=>
 gB SP λJJ=>
 gN Ay<|
 some (.b JJ)))
def LO:GT:=bt 9 (ga vY) UO
theorem Ex:SG LO:=o6 QN [] 78 [(9,⟨[1,10,11,12],[],[],[(0,[(4,.sc (.k .b))])],[]⟩),(5,⟨[0,1,5,6,7,8],[],[],[(0,[(53,.sc (.k .b))])],[]⟩),(1,⟨[0,1],[],[],[(0,[(20,.sc (.k .b))])],[]⟩)] [] [] Tryz.func9 (by kernel_rfl) (bE (λ_ _=>by kernel_rfl))
end
end Dn.S
