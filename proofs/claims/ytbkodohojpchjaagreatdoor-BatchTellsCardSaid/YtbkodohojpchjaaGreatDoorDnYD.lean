import Derived.Test.YtbkodohojpchjaaGreatDoorDnYTab
import Derived.Test.YtbkodohojpchjaaGreatDoorDnC
import Derived.Test.YtbkodohojpchjaaGreatDoorDnD
import Derived.Test.YtbkodohojpchjaaGreatDoorDnYT
import Derived.KernelRfl
import Derived.Test.YtbkodohojpchjaaGreatDoorProg
/-
  The functions, on plain values, and their contracts. Conditions: none.
-/
set_option linter.unusedVariables false
set_option linter.unusedSimpArgs false
open Go.IntKind renaming wrap→aQ,bits→AS
open Int renaming toNat→sh,tmod→IT,fdiv→No,tdiv→aaa
open Nat renaming beq→AI,le_of_ble_eq_true→IN,eq_of_beq_eq_true→OF
open Go.Extern.SlicesOverlaps renaming overlaps→AT
open List renaming drop→By,take→BY,replicate→aab
open Go.Shelf renaming Ren→aac
open Go.Proofs.Lays renaming n146→aad,n160→aae,n151→aaf
open Go Dn Go.Proofs
set_option maxRecDepth 100000
namespace Dn.S
noncomputable section
theorem eP:dt Tryz.prog (mj yQ):=GF (by kernel_rfl)
theorem za:HV Tryz.prog (mj yQ):=NW (by kernel_rfl)
theorem jI:Tryz.prog.follows .mixedOrders=true:=by kernel_rfl
def Pm {R:Type}(k0 k1:IntKind)(l0:List MV)(K:Int->Int->Option R):Option R:=gC l0 λm0 l1=>gI k0 m0 λx0=>gC l1 λm1 l2=>gI k1 m1 λx1=>gN l2<|K x0 x1
def Fj {R:Type}(k0 k1 k2 k5 k6 k7:IntKind)(l0:List MV)(K:Int->Int->Int->List UInt8->List UInt8->Int->Int->Int->Option R):Option R:=gC l0 λm0 l1=>gI k0 m0 λx0=>gC l1 λm1 l2=>gI k1 m1 λx1=>gC l2 λm2 l3=>gI k2 m2 λx2=>gC l3 λm3 l4=>gS m3 λx3=>gC l4 λm4 l5=>gS m4 λx4=>gC l5 λm5 l6=>gI k5 m5 λx5=>gC l6 λm6 l7=>gI k6 m6 λx6=>gC l7 λm7 l8=>gI k7 m7 λx7=>gN l8<|K x0 x1 x2 x3 x4 x5 x6 x7
def Jd {R:Type}(k0 k2:IntKind)(l0:List MV)(K:Int->List MV->Int->Option R):Option R:=gC l0 λm0 l1=>gI k0 m0 λx0=>gC l1 λm1 l2=>gL m1 λx1=>gC l2 λm2 l3=>gI k2 m2 λx2=>gN l3<|K x0 x1 x2
def oLI {R:Type}(k1:IntKind)(l0:List MV)(K:List MV->Int->Option R):Option R:=gC l0 λm0 l1=>gL m0 λx0=>gC l1 λm1 l2=>gI k1 m1 λx1=>gN l2<|K x0 x1
def Vt {R:Type}(k2:IntKind)(l0:List MV)(K:List MV->List MV->Int->Option R):Option R:=gC l0 λm0 l1=>gL m0 λx0=>gC l1 λm1 l2=>gL m1 λx1=>gC l2 λm2 l3=>gI k2 m2 λx2=>gN l3<|K x0 x1 x2
abbrev cF {R:Type}:= @Fj R .i64 .i64 .i64 .i64 .i64 .i64
abbrev Af {R:Type}:= @oLI R .i64
abbrev Y2 {R:Type}:= @Vt R .i64
abbrev agy {R:Type}:= @Jd R .i64 .i64
@[reducible] def bj (x0 : Int)(x1 : Int)(x2 : Int)(x3 : List UInt8)(x4 : List UInt8)(x5 : Int)(x6 : Int)(x7 : Int) : List MV := [.i .i64 x0, .i .i64 x1, .i .i64 x2, .s x3, .s x4, .i .i64 x5, .i .i64 x6, .i .i64 x7]
def uQ:List (Nat×eY)->Nat->eY
 |[],_=>default
 |(k,s)::r,t=>bif AI k t then s else uQ r t
def BQ:List (Nat×List Nat)->Nat->List Nat
 |[],_=>[]
 |(k,s)::r,t=>bif AI k t then s else BQ r t
def Fk:List (Nat×Nat)->Nat->Nat
 |[],_=>0
 |(k,s)::r,t=>bif AI k t then s else Fk r t
def kk (n:Nat):Nat:=n
def gv (n:Nat):Bool:=aP [63,218,223,225,227,211,105,106,107,108,109,110,111,112,113,114,115,118,158,159,171,179,209] n
def frs (n:Nat):Bool:=aP [61,63,116,117,194,218,219,223,225,226,227,166,168,92,134,135,192,86,149,204,87,93,211,215,148] n
def Je:List (Nat×Nat):=[(61,57),(63,57),(116,75),(117,75),(194,9),(218,98),(219,98),(223,98),(225,126),(226,126),(227,126),(166,9),(168,9),(92,5),(134,5),(135,5),(192,5),(86,5),(149,5),(204,5),(87,5),(93,5),(211,5),(215,5)]
def BR:List (Nat×FloatKind)->Nat->Option FloatKind
 |[],_=>none
 |(k,s)::r,t=>bif AI k t then some s else BR r t
def Fl:List (Nat×FloatKind):=[]
theorem zb: ∀t k,BR Fl t=some k->Tryz.prog.underlying t=some (.float k):=by intro t k h;cases h
def BS:List (Nat×(Nat×Bool)):=[]
def wN:List (Nat×(Nat×List LK×List LK))->Nat->Option (Nat×List LK×List LK)
 |[],_=>none
 |(k,s)::r,t=>bif AI k t then some s else wN r t
abbrev bW:List LK:=[.k (.l),.k (.i .i64),.k (.l),.k (.l),.k (.l),.k (.i .i64),.k (.i .i64),.k (.i .i64),.k (.s),.k (.s),.k (.i .i64),.k (.i .i64),.k (.i .i64),.k (.i .i64),.k (.i .i64),.k (.i .i64),.k (.s),.k (.i .i64),.k (.l),.own 2000019 77 false]
abbrev ML:List LK:=[.own 2000000 79 false]
abbrev Xk:List LK:=[.k (.h .u32 6),.own 2000001 5 false,.k (.i .i64)]
abbrev Fm:List LK:=[.k (.h .u32 6),.k (.l),.k (.i .i64)]
abbrev MM:List LK:=[.k (.h .u32 6)]
def BT:List (Nat×(Nat×List LK×List LK)):=[(105,(0,bW,bW)),(106,(0,bW,bW)),(107,(0,bW,bW)),(108,(0,bW,bW)),(109,(0,bW,bW)),(110,(0,bW,bW)),(111,(0,bW,bW)),(112,(0,bW,bW)),(113,(0,bW,bW)),(114,(0,bW,bW)),(115,(0,bW,bW)),(118,(2,ML,ML)),(158,(0,Xk,Fm)),(159,(0,Fm,Fm)),(171,(0,bW,bW)),(179,(0,bW,bW)),(209,(0,MM,MM))]
def dl (n:Nat):Bool:=aP [117] n
def cx:Ctx:=⟨mj yQ,kk,λ_ _=>none,gv,frs,Fk Je,wN BT,[],0,[],[],λ_=>[],BR Fl,uM BS,λ_=>[],λ_=>default,λ_=>default,λ_=>default,dl,[],0⟩
def J3 (g:Nat->List MV->Option MV)(par:List (Nat×Nat))(n:Nat)(bs fl:List Nat)(fz ord:List (Nat×List Nat))(gQ iF il:List (Nat×eY))(dyn:List Nat):Ctx:=⟨mj yQ,kk,g,gv,frs,Fk Je,wN BT,par,n,bs,fl,BQ fz,BR Fl,uM BS,BQ ord,uQ gQ,uQ iF,uQ il,dl,dyn,0⟩
theorem BU:rR Tryz.prog cx:=Bk (l:=BS) (by kernel_rfl) (λ_ _ h=>h)
def dD (t:Nat):TI:=match mj yQ t with|some I=>I|none=>⟨false,0,0,[],[],[],[],0,[]⟩
theorem tv9:cx.tv 9=some (dD 9):=by kernel_rfl
theorem Y3:cx.tv 22=some (dD 22):=by kernel_rfl
theorem Y4:cx.tv 25=some (dD 25):=by kernel_rfl
theorem agz:cx.tv 28=some (dD 28):=by kernel_rfl
theorem acQ:cx.tv 31=some (dD 31):=by kernel_rfl
theorem acR:cx.tv 57=some (dD 57):=by kernel_rfl
theorem agA:cx.tv 75=some (dD 75):=by kernel_rfl
theorem Y5:cx.tv 98=some (dD 98):=by kernel_rfl
theorem Sa:cx.tv 126=some (dD 126):=by kernel_rfl
theorem Vu:GI Tryz.prog cx 117 75:=by
 have hE:cx.tv 75=some (dD 75):=by kernel_rfl
 refine U3 (P:=Tryz.prog) (f:=117) (fi:=182) (t:=28) (ti:=3) (tb:=4) (fu:=191) (el:=75) (fn:=Tryz.f117) (fni:=Tryz.f182) (r:=(λk=>(([0,1,2,3,4,5,7,8,9,10,6,11,12]:List Nat)[k]?).getD 0)) (ri:=(λk=>(([0,1,2,3,4,5,6,7]:List Nat)[k]?).getD 0)) (o:=dM Tryz.f117 dN) (oi:=dM Tryz.f182 dN) ⟨Tryz.func117,by kernel_rfl,by kernel_rfl,by kernel_rfl,by kernel_rfl,?_,by kernel_rfl⟩ ⟨Tryz.func182,by kernel_rfl,by kernel_rfl,by kernel_rfl,by kernel_rfl,?_,by kernel_rfl⟩ eP hE (by kernel_rfl) (IN (by kernel_rfl))
 ·constructor<;>exact ⟨by kernel_rfl,by kernel_rfl,by kernel_rfl⟩
 ·constructor<;>exact ⟨by kernel_rfl,by kernel_rfl,by kernel_rfl⟩
theorem qk:mq Tryz.prog cx:=by
 intro n hn;unfold cx dl aP at hn;cases Xl:AI 117 n with
 |true=>have:=OF Xl;subst this;exact Vu
 |false=>
 simp only [Xl,cond_false] at hn;try unfold aP at hn
 cases hn
def zd:aac:=⟨λ|146=>194|221=>233|268=>252|138=>253|143=>254|195=>269|197=>270|218=>271|219=>272|260=>282|217=>283|225=>279|224=>278|267=>284|266=>286|314=>287|n=>n,λ|9=>9|31=>55|3=>3|4=>4|0=>0|105=>349|21=>21|5=>5|46=>226|119=>356|139=>359|138=>358|146=>327|51=>244|n=>n,λ|1=>0|3=>1|4=>2|n=>n⟩
theorem Vv:aad Tryz.prog zd:={
 mixed:=by kernel_rfl
 f138:=Tryz.func253.trans (congrArg some (by kernel_rfl))
 f143:=Tryz.func254.trans (congrArg some (by kernel_rfl))
 f146:=Tryz.func194.trans (congrArg some (by kernel_rfl))
 f195:=Tryz.func269.trans (congrArg some (by kernel_rfl))
 f197:=Tryz.func270.trans (congrArg some (by kernel_rfl))
 f217:=Tryz.func283.trans (congrArg some (by kernel_rfl))
 f218:=Tryz.func271.trans (congrArg some (by kernel_rfl))
 f219:=Tryz.func272.trans (congrArg some (by kernel_rfl))
 f221:=Tryz.func233.trans (congrArg some (by kernel_rfl))
 f224:=Tryz.func278.trans (congrArg some (by kernel_rfl))
 f225:=Tryz.func279.trans (congrArg some (by kernel_rfl))
 f260:=Tryz.func282.trans (congrArg some (by kernel_rfl))
 f266:=Tryz.func286.trans (congrArg some (by kernel_rfl))
 f267:=Tryz.func284.trans (congrArg some (by kernel_rfl))
 f268:=Tryz.func252.trans (congrArg some (by kernel_rfl))
 f314:=Tryz.func287.trans (congrArg some (by kernel_rfl))
 t0:=Tryz.underlying0
 a0:=Tryz.isAgg0
 z0:=Tryz.sizeOf0
 v0:=Tryz.zeroValue0
 t3:=Tryz.underlying3
 a3:=Tryz.isAgg3
 z3:=Tryz.sizeOf3
 v3:=Tryz.zeroValue3
 t4:=Tryz.underlying4
 a4:=Tryz.isAgg4
 z4:=Tryz.sizeOf4
 v4:=Tryz.zeroValue4
 t5:=Tryz.underlying5
 a5:=Tryz.isAgg5
 z5:=Tryz.sizeOf5
 v5:=Tryz.zeroValue5
 t9:=Tryz.underlying9
 a9:=Tryz.isAgg9
 z9:=Tryz.sizeOf9
 v9:=Tryz.zeroValue9
 t21:=Tryz.underlying21
 a21:=Tryz.isAgg21
 z21:=Tryz.sizeOf21
 v21:=Tryz.zeroValue21
 t31:=Tryz.underlying55
 a31:=Tryz.isAgg55
 z31:=Tryz.sizeOf55
 v31:=Tryz.zeroValue55
 t46:=Tryz.underlying226
 a46:=Tryz.isAgg226
 z46:=Tryz.sizeOf226
 v46:=Tryz.zeroValue226
 t51:=Tryz.underlying244
 a51:=Tryz.isAgg244
 z51:=Tryz.sizeOf244
 v51:=Tryz.zeroValue244
 t105:=Tryz.underlying349
 a105:=Tryz.isAgg349
 z105:=Tryz.sizeOf349
 v105:=Tryz.zeroValue349
 t119:=Tryz.underlying356
 a119:=Tryz.isAgg356
 z119:=Tryz.sizeOf356
 t138:=Tryz.underlying358
 a138:=Tryz.isAgg358
 z138:=Tryz.sizeOf358
 v138:=Tryz.zeroValue358
 t139:=Tryz.underlying359
 a139:=Tryz.isAgg359
 z139:=Tryz.sizeOf359
 v139:=Tryz.zeroValue359
 t146:=Tryz.underlying327
 a146:=Tryz.isAgg327
 z146:=Tryz.sizeOf327
 v146:=Tryz.zeroValue327
 g1:=by kernel_rfl
 g3:=by kernel_rfl
 g4:=by kernel_rfl}
def ze:aac:=⟨λ|160=>235|232=>256|231=>255|227=>257|234=>259|233=>258|236=>261|235=>260|228=>273|271=>274|151=>238|197=>270|120=>285|152=>263|260=>282|137=>276|119=>277|224=>278|225=>279|217=>283|266=>286|n=>n,λ|9=>9|4=>4|3=>3|5=>5|117=>341|116=>340|0=>0|124=>344|21=>21|105=>349|46=>226|119=>356|139=>359|138=>358|n=>n,λ|3=>1|4=>2|n=>n⟩
theorem Vw:aae Tryz.prog ze:={
 mixed:=by kernel_rfl
 f119:=Tryz.func277.trans (congrArg some (by kernel_rfl))
 f120:=Tryz.func285.trans (congrArg some (by kernel_rfl))
 f137:=Tryz.func276.trans (congrArg some (by kernel_rfl))
 f151:=Tryz.func238.trans (congrArg some (by kernel_rfl))
 f152:=Tryz.func263.trans (congrArg some (by kernel_rfl))
 f160:=Tryz.func235.trans (congrArg some (by kernel_rfl))
 f197:=Tryz.func270.trans (congrArg some (by kernel_rfl))
 f217:=Tryz.func283.trans (congrArg some (by kernel_rfl))
 f224:=Tryz.func278.trans (congrArg some (by kernel_rfl))
 f225:=Tryz.func279.trans (congrArg some (by kernel_rfl))
 f227:=Tryz.func257.trans (congrArg some (by kernel_rfl))
 f228:=Tryz.func273.trans (congrArg some (by kernel_rfl))
 f231:=Tryz.func255.trans (congrArg some (by kernel_rfl))
 f232:=Tryz.func256.trans (congrArg some (by kernel_rfl))
 f233:=Tryz.func258.trans (congrArg some (by kernel_rfl))
 f234:=Tryz.func259.trans (congrArg some (by kernel_rfl))
 f235:=Tryz.func260.trans (congrArg some (by kernel_rfl))
 f236:=Tryz.func261.trans (congrArg some (by kernel_rfl))
 f260:=Tryz.func282.trans (congrArg some (by kernel_rfl))
 f266:=Tryz.func286.trans (congrArg some (by kernel_rfl))
 f271:=Tryz.func274.trans (congrArg some (by kernel_rfl))
 t0:=Tryz.underlying0
 a0:=Tryz.isAgg0
 z0:=Tryz.sizeOf0
 v0:=Tryz.zeroValue0
 t3:=Tryz.underlying3
 a3:=Tryz.isAgg3
 z3:=Tryz.sizeOf3
 v3:=Tryz.zeroValue3
 t4:=Tryz.underlying4
 a4:=Tryz.isAgg4
 z4:=Tryz.sizeOf4
 v4:=Tryz.zeroValue4
 t5:=Tryz.underlying5
 a5:=Tryz.isAgg5
 z5:=Tryz.sizeOf5
 v5:=Tryz.zeroValue5
 t9:=Tryz.underlying9
 a9:=Tryz.isAgg9
 z9:=Tryz.sizeOf9
 v9:=Tryz.zeroValue9
 t21:=Tryz.underlying21
 a21:=Tryz.isAgg21
 z21:=Tryz.sizeOf21
 v21:=Tryz.zeroValue21
 t46:=Tryz.underlying226
 a46:=Tryz.isAgg226
 z46:=Tryz.sizeOf226
 v46:=Tryz.zeroValue226
 t105:=Tryz.underlying349
 a105:=Tryz.isAgg349
 z105:=Tryz.sizeOf349
 v105:=Tryz.zeroValue349
 t116:=Tryz.underlying340
 a116:=Tryz.isAgg340
 z116:=Tryz.sizeOf340
 t117:=Tryz.underlying341
 a117:=Tryz.isAgg341
 z117:=Tryz.sizeOf341
 v117:=Tryz.zeroValue341
 t119:=Tryz.underlying356
 a119:=Tryz.isAgg356
 z119:=Tryz.sizeOf356
 t124:=Tryz.underlying344
 a124:=Tryz.isAgg344
 z124:=Tryz.sizeOf344
 v124:=Tryz.zeroValue344
 t138:=Tryz.underlying358
 a138:=Tryz.isAgg358
 z138:=Tryz.sizeOf358
 v138:=Tryz.zeroValue358
 t139:=Tryz.underlying359
 a139:=Tryz.isAgg359
 z139:=Tryz.sizeOf359
 v139:=Tryz.zeroValue359
 g3:=by kernel_rfl
 g4:=by kernel_rfl}
def zf:aac:=⟨λ|151=>238|152=>263|137=>276|119=>277|224=>278|225=>279|217=>283|266=>286|n=>n,λ|9=>9|21=>21|4=>4|3=>3|5=>5|0=>0|46=>226|n=>n,λ|n=>n⟩
theorem Vx:aaf Tryz.prog zf:={
 mixed:=by kernel_rfl
 f119:=Tryz.func277.trans (congrArg some (by kernel_rfl))
 f137:=Tryz.func276.trans (congrArg some (by kernel_rfl))
 f151:=Tryz.func238.trans (congrArg some (by kernel_rfl))
 f152:=Tryz.func263.trans (congrArg some (by kernel_rfl))
 f217:=Tryz.func283.trans (congrArg some (by kernel_rfl))
 f224:=Tryz.func278.trans (congrArg some (by kernel_rfl))
 f225:=Tryz.func279.trans (congrArg some (by kernel_rfl))
 f266:=Tryz.func286.trans (congrArg some (by kernel_rfl))
 t0:=Tryz.underlying0
 a0:=Tryz.isAgg0
 z0:=Tryz.sizeOf0
 v0:=Tryz.zeroValue0
 t3:=Tryz.underlying3
 a3:=Tryz.isAgg3
 z3:=Tryz.sizeOf3
 v3:=Tryz.zeroValue3
 t4:=Tryz.underlying4
 a4:=Tryz.isAgg4
 z4:=Tryz.sizeOf4
 v4:=Tryz.zeroValue4
 t5:=Tryz.underlying5
 a5:=Tryz.isAgg5
 z5:=Tryz.sizeOf5
 v5:=Tryz.zeroValue5
 t9:=Tryz.underlying9
 a9:=Tryz.isAgg9
 z9:=Tryz.sizeOf9
 v9:=Tryz.zeroValue9
 t21:=Tryz.underlying21
 a21:=Tryz.isAgg21
 z21:=Tryz.sizeOf21
 v21:=Tryz.zeroValue21
 t46:=Tryz.underlying226
 a46:=Tryz.isAgg226
 z46:=Tryz.sizeOf226
 v46:=Tryz.zeroValue226}
abbrev GT:=Nat->List MV->Option MV
abbrev SG (g:GT):Prop:=cA Tryz.prog cx g
theorem Vy {g:GT}(h:SG g):SG (bo 194 G6 g):=h.zK (λ_=>rfl) (λms r hr=>R4 (P:=Tryz.prog) (ρ:=zd) (c:=cx) Vv (by kernel_rfl) (by kernel_rfl) (by kernel_rfl) tv9 (by kernel_rfl) hr)
theorem Vz {g:GT}(h:SG g):SG (bo 235 MI g):=h.zK (λ_=>rfl) (λms r hr=>Vo (P:=Tryz.prog) (ρ:=ze) (c:=cx) Vw (by kernel_rfl) (by kernel_rfl) hr)
theorem VA {g:GT}(h:SG g):SG (bo 238 wD g):=h.zK (λ_=>rfl) (λms r hr=>Le (P:=Tryz.prog) (ρ:=zf) (c:=cx) Vx (by kernel_rfl) hr)
theorem Y6 {g:GT}(h:SG g):SG (bo 61 (oa 6 72) g):=h.zK (λ_=>rfl) (λms r hr=>by obtain ⟨xs,rfl,rfl,h1,h2⟩:=nD hr;exact wi (P:=Tryz.prog) (c:=cx) (f:=61) (fn:=Tryz.f61) (t:=31) (I:=dD 31) (E:=dD 57) (i0:=0) (i1:=1) (i2:=2) (i3:=3) (oA:=dM Tryz.f61 dN 0) (oB:=dM Tryz.f61 dN 1) (oC:=dM Tryz.f61 dN 2) (oD:=dM Tryz.f61 dN 3) (oE:=dM Tryz.f61 dN 4) (oF:=dM Tryz.f61 dN 5) (oG:=dM Tryz.f61 dN 6) (oH:=dM Tryz.f61 dN 7) eP acQ (by kernel_rfl) acR (IN (by kernel_rfl)) (by kernel_rfl) (by kernel_rfl) Tryz.func61 (by kernel_rfl) (by kernel_rfl) (by kernel_rfl) (by kernel_rfl) ⟨by kernel_rfl,by kernel_rfl,by kernel_rfl⟩ ⟨by kernel_rfl,by kernel_rfl,by kernel_rfl⟩ ⟨by kernel_rfl,by kernel_rfl,by kernel_rfl⟩ ⟨by kernel_rfl,by kernel_rfl,by kernel_rfl⟩ ⟨by kernel_rfl,by kernel_rfl,by kernel_rfl⟩ ⟨by kernel_rfl,by kernel_rfl,by kernel_rfl⟩ ⟨by kernel_rfl,by kernel_rfl,by kernel_rfl⟩ ⟨by kernel_rfl,by kernel_rfl,by kernel_rfl⟩ (by rw [show (dD 57).size=6 by kernel_rfl];exact h1) (by rw [show (dD 57).bytes=72 by kernel_rfl];exact h2))
theorem acS:Bw Tryz.prog 63 31 3 4 57 122 Tryz.f63 (λk=>k) (dM Tryz.f63 dN) (G3 (dM Tryz.f63 dN)):=by refine ⟨Tryz.func63,by kernel_rfl,by kernel_rfl,by kernel_rfl,by kernel_rfl,?_,jI,by kernel_rfl⟩;constructor<;>first|exact ⟨by kernel_rfl,by kernel_rfl,by kernel_rfl⟩|kernel_rfl
theorem agB: ∀args w,(callFunc 122 args).run Tryz.prog w=((AT #[31,31] #[4] args).run Tryz.prog w).andThen λv w'=> .ok (.value v) w':=λargs w=>run_callFunc_extern Tryz.func122 (by kernel_rfl) (by kernel_rfl) (by kernel_rfl) (e:=AT #[31,31] #[4]) (by kernel_rfl) args w
theorem Y7 {g:GT}(h:SG g):SG (bo 63 (nC 72) g):=h.zK (λ_=>rfl) (λms r hr=>by obtain ⟨xs,ys,i,rfl,rfl,h1,h2,h3⟩:=p9 hr;exact xV (P:=Tryz.prog) (c:=cx) (I:=dD 31) (E:=dD 57) acS eP acQ (by kernel_rfl) acR (IN (by kernel_rfl)) (by kernel_rfl) (by kernel_rfl) (by kernel_rfl) (by kernel_rfl) agB h1 h2 (by rw [show (dD 57).bytes=72 by kernel_rfl];exact h3))
theorem VB {g:GT}(h:SG g):SG (bo 116 (oa 3 32) g):=h.zK (λ_=>rfl) (λms r hr=>by obtain ⟨xs,rfl,rfl,h1,h2⟩:=nD hr;exact wi (P:=Tryz.prog) (c:=cx) (f:=116) (fn:=Tryz.f116) (t:=28) (I:=dD 28) (E:=dD 75) (i0:=0) (i1:=1) (i2:=2) (i3:=3) (oA:=dM Tryz.f116 dN 0) (oB:=dM Tryz.f116 dN 1) (oC:=dM Tryz.f116 dN 2) (oD:=dM Tryz.f116 dN 3) (oE:=dM Tryz.f116 dN 4) (oF:=dM Tryz.f116 dN 5) (oG:=dM Tryz.f116 dN 6) (oH:=dM Tryz.f116 dN 7) eP agz (by kernel_rfl) agA (IN (by kernel_rfl)) (by kernel_rfl) (by kernel_rfl) Tryz.func116 (by kernel_rfl) (by kernel_rfl) (by kernel_rfl) (by kernel_rfl) ⟨by kernel_rfl,by kernel_rfl,by kernel_rfl⟩ ⟨by kernel_rfl,by kernel_rfl,by kernel_rfl⟩ ⟨by kernel_rfl,by kernel_rfl,by kernel_rfl⟩ ⟨by kernel_rfl,by kernel_rfl,by kernel_rfl⟩ ⟨by kernel_rfl,by kernel_rfl,by kernel_rfl⟩ ⟨by kernel_rfl,by kernel_rfl,by kernel_rfl⟩ ⟨by kernel_rfl,by kernel_rfl,by kernel_rfl⟩ ⟨by kernel_rfl,by kernel_rfl,by kernel_rfl⟩ (by rw [show (dD 75).size=3 by kernel_rfl];exact h1) (by rw [show (dD 75).bytes=32 by kernel_rfl];exact h2))
theorem Y8:Bw Tryz.prog 218 22 3 4 98 246 Tryz.f218 (λk=>k) (dM Tryz.f218 dN) (G3 (dM Tryz.f218 dN)):=by refine ⟨Tryz.func218,by kernel_rfl,by kernel_rfl,by kernel_rfl,by kernel_rfl,?_,jI,by kernel_rfl⟩;constructor<;>first|exact ⟨by kernel_rfl,by kernel_rfl,by kernel_rfl⟩|kernel_rfl
theorem acT: ∀args w,(callFunc 246 args).run Tryz.prog w=((AT #[22,22] #[4] args).run Tryz.prog w).andThen λv w'=> .ok (.value v) w':=λargs w=>run_callFunc_extern Tryz.func246 (by kernel_rfl) (by kernel_rfl) (by kernel_rfl) (e:=AT #[22,22] #[4]) (by kernel_rfl) args w
theorem VC {g:GT}(h:SG g):SG (bo 218 (nC 48) g):=h.zK (λ_=>rfl) (λms r hr=>by obtain ⟨xs,ys,i,rfl,rfl,h1,h2,h3⟩:=p9 hr;exact xV (P:=Tryz.prog) (c:=cx) (I:=dD 22) (E:=dD 98) Y8 eP Y3 (by kernel_rfl) Y5 (IN (by kernel_rfl)) (by kernel_rfl) (by kernel_rfl) (by kernel_rfl) (by kernel_rfl) acT h1 h2 (by rw [show (dD 98).bytes=48 by kernel_rfl];exact h3))
theorem VD {g:GT}(h:SG g):SG (bo 219 (oa 4 48) g):=h.zK (λ_=>rfl) (λms r hr=>by obtain ⟨xs,rfl,rfl,h1,h2⟩:=nD hr;exact wi (P:=Tryz.prog) (c:=cx) (f:=219) (fn:=Tryz.f219) (t:=22) (I:=dD 22) (E:=dD 98) (i0:=0) (i1:=1) (i2:=2) (i3:=3) (oA:=dM Tryz.f219 dN 0) (oB:=dM Tryz.f219 dN 1) (oC:=dM Tryz.f219 dN 2) (oD:=dM Tryz.f219 dN 3) (oE:=dM Tryz.f219 dN 4) (oF:=dM Tryz.f219 dN 5) (oG:=dM Tryz.f219 dN 6) (oH:=dM Tryz.f219 dN 7) eP Y3 (by kernel_rfl) Y5 (IN (by kernel_rfl)) (by kernel_rfl) (by kernel_rfl) Tryz.func219 (by kernel_rfl) (by kernel_rfl) (by kernel_rfl) (by kernel_rfl) ⟨by kernel_rfl,by kernel_rfl,by kernel_rfl⟩ ⟨by kernel_rfl,by kernel_rfl,by kernel_rfl⟩ ⟨by kernel_rfl,by kernel_rfl,by kernel_rfl⟩ ⟨by kernel_rfl,by kernel_rfl,by kernel_rfl⟩ ⟨by kernel_rfl,by kernel_rfl,by kernel_rfl⟩ ⟨by kernel_rfl,by kernel_rfl,by kernel_rfl⟩ ⟨by kernel_rfl,by kernel_rfl,by kernel_rfl⟩ ⟨by kernel_rfl,by kernel_rfl,by kernel_rfl⟩ (by rw [show (dD 98).size=4 by kernel_rfl];exact h1) (by rw [show (dD 98).bytes=48 by kernel_rfl];exact h2))
theorem Y9:IX Tryz.prog 223 22 3 98 Tryz.f223 (λk=>k) (dM Tryz.f223 dN):=by refine ⟨Tryz.func223,by kernel_rfl,by kernel_rfl,by kernel_rfl,by kernel_rfl,?_,jI,by kernel_rfl⟩;constructor<;>first|exact ⟨by kernel_rfl,by kernel_rfl,by kernel_rfl⟩|kernel_rfl
theorem VE {g:GT}(h:SG g):SG (bo 223 tH g):=h.zK (λ_=>rfl) (λms r hr=>by obtain ⟨xs,i,j,rfl,rfl,h1,h2⟩:=wu hr;exact Ff (P:=Tryz.prog) (c:=cx) (I:=dD 22) (E:=dD 98) Y9 eP Y3 (by kernel_rfl) Y5 (by kernel_rfl) (by kernel_rfl) (by kernel_rfl) h1 h2)
theorem Za:Bw Tryz.prog 225 25 3 4 126 248 Tryz.f225 (λk=>k) (dM Tryz.f225 dN) (G3 (dM Tryz.f225 dN)):=by refine ⟨Tryz.func225,by kernel_rfl,by kernel_rfl,by kernel_rfl,by kernel_rfl,?_,jI,by kernel_rfl⟩;constructor<;>first|exact ⟨by kernel_rfl,by kernel_rfl,by kernel_rfl⟩|kernel_rfl
theorem acU: ∀args w,(callFunc 248 args).run Tryz.prog w=((AT #[25,25] #[4] args).run Tryz.prog w).andThen λv w'=> .ok (.value v) w':=λargs w=>run_callFunc_extern Tryz.func248 (by kernel_rfl) (by kernel_rfl) (by kernel_rfl) (e:=AT #[25,25] #[4]) (by kernel_rfl) args w
theorem VF {g:GT}(h:SG g):SG (bo 225 (nC 24) g):=h.zK (λ_=>rfl) (λms r hr=>by obtain ⟨xs,ys,i,rfl,rfl,h1,h2,h3⟩:=p9 hr;exact xV (P:=Tryz.prog) (c:=cx) (I:=dD 25) (E:=dD 126) Za eP Y4 (by kernel_rfl) Sa (IN (by kernel_rfl)) (by kernel_rfl) (by kernel_rfl) (by kernel_rfl) (by kernel_rfl) acU h1 h2 (by rw [show (dD 126).bytes=24 by kernel_rfl];exact h3))
theorem VG {g:GT}(h:SG g):SG (bo 226 (oa 3 24) g):=h.zK (λ_=>rfl) (λms r hr=>by obtain ⟨xs,rfl,rfl,h1,h2⟩:=nD hr;exact wi (P:=Tryz.prog) (c:=cx) (f:=226) (fn:=Tryz.f226) (t:=25) (I:=dD 25) (E:=dD 126) (i0:=0) (i1:=1) (i2:=2) (i3:=3) (oA:=dM Tryz.f226 dN 0) (oB:=dM Tryz.f226 dN 1) (oC:=dM Tryz.f226 dN 2) (oD:=dM Tryz.f226 dN 3) (oE:=dM Tryz.f226 dN 4) (oF:=dM Tryz.f226 dN 5) (oG:=dM Tryz.f226 dN 6) (oH:=dM Tryz.f226 dN 7) eP Y4 (by kernel_rfl) Sa (IN (by kernel_rfl)) (by kernel_rfl) (by kernel_rfl) Tryz.func226 (by kernel_rfl) (by kernel_rfl) (by kernel_rfl) (by kernel_rfl) ⟨by kernel_rfl,by kernel_rfl,by kernel_rfl⟩ ⟨by kernel_rfl,by kernel_rfl,by kernel_rfl⟩ ⟨by kernel_rfl,by kernel_rfl,by kernel_rfl⟩ ⟨by kernel_rfl,by kernel_rfl,by kernel_rfl⟩ ⟨by kernel_rfl,by kernel_rfl,by kernel_rfl⟩ ⟨by kernel_rfl,by kernel_rfl,by kernel_rfl⟩ ⟨by kernel_rfl,by kernel_rfl,by kernel_rfl⟩ ⟨by kernel_rfl,by kernel_rfl,by kernel_rfl⟩ (by rw [show (dD 126).size=3 by kernel_rfl];exact h1) (by rw [show (dD 126).bytes=24 by kernel_rfl];exact h2))
theorem Zd:IX Tryz.prog 227 25 3 126 Tryz.f227 (λk=>k) (dM Tryz.f227 dN):=by refine ⟨Tryz.func227,by kernel_rfl,by kernel_rfl,by kernel_rfl,by kernel_rfl,?_,jI,by kernel_rfl⟩;constructor<;>first|exact ⟨by kernel_rfl,by kernel_rfl,by kernel_rfl⟩|kernel_rfl
theorem VH {g:GT}(h:SG g):SG (bo 227 tH g):=h.zK (λ_=>rfl) (λms r hr=>by obtain ⟨xs,i,j,rfl,rfl,h1,h2⟩:=wu hr;exact Ff (P:=Tryz.prog) (c:=cx) (I:=dD 25) (E:=dD 126) Zd eP Y4 (by kernel_rfl) Sa (by kernel_rfl) (by kernel_rfl) (by kernel_rfl) h1 h2)
def H61:GT:=bo 61 (oa 6 72) (λ_ _=>none)
theorem Sb:SG H61:=Y6 (cA.none _ _)
def H63:GT:=bo 63 (nC 72) H61
theorem Sc:SG H63:=Y7 Sb
def acV:GT:=bo 116 (oa 3 32) H63
theorem Oq:SG acV:=VB Sc
def acW:GT:=bo 194 G6 acV
theorem Ot:SG acW:=Vy Oq
def acX:GT:=bo 218 (nC 48) acW
theorem Ou:SG acX:=VC Ot
def acY:GT:=bo 219 (oa 4 48) acX
theorem Ov:SG acY:=VD Ou
def acZ:GT:=bo 223 tH acY
theorem Ow:SG acZ:=VE Ov
def ac0:GT:=bo 225 (nC 24) acZ
theorem Ox:SG ac0:=VF Ow
def ac1:GT:=bo 226 (oa 3 24) ac0
theorem Oy:SG ac1:=VG Ox
def ac2:GT:=bo 227 tH ac1
theorem Oz:SG ac2:=VH Oy
def ac3:GT:=bo 235 MI ac2
theorem OA:SG ac3:=Vz Oz
def ac4:GT:=bo 238 wD ac3
theorem OB:SG ac4:=VA OA
abbrev MN:List LK:=[.k (.h .u32 6),.k (.l),.k (.i .i64)]
def Ag:List (Nat×(Nat×List LK×List LK)):=(209,(0,MN,MN))::BT
def TD:Ctx:=⟨mj yQ,kk,λ_ _=>none,gv,frs,Fk Je,wN Ag,[],0,[],[],λ_=>[],BR Fl,uM BS,λ_=>[],λ_=>default,λ_=>default,λ_=>default,λ_=>false,[],0⟩
def Ze (g:GT)(par:List (Nat×Nat))(n:Nat)(bs fl:List Nat)(fz ord:List (Nat×List Nat))(gQ iF il:List (Nat×eY))(dyn:List Nat):Ctx:=⟨mj yQ,kk,g,gv,frs,Fk Je,wN Ag,par,n,bs,fl,BQ fz,BR Fl,uM BS,BQ ord,uQ gQ,uQ iF,uQ il,λ_=>false,dyn,0⟩
theorem Zf:rR Tryz.prog TD:=Bk (l:=BS) (by kernel_rfl) (λ_ _ h=>h)
theorem Sd:mq Tryz.prog TD:=λn hn=>absurd (show false=true from hn) (by decide)
theorem Se:y7 209 cx TD:=⟨rfl,rfl,rfl,rfl,rfl,λk hk=>by
 show wN Ag k=wN BT k;unfold Ag wN;rw [show AI 209 k=false from by
  cases hb:AI 209 k with
  |false=>rfl
  |true=>exact absurd (OF hb).symm hk]
 rfl⟩
theorem Zg:y7 209 TD cx:=⟨rfl,rfl,rfl,rfl,rfl,λk hk=>(Se.sig k hk).symm⟩
theorem J4 {g:GT}(s:SG g)(aS:List (List Kd))(par:List (Nat×Nat))(tn:Nat)(bs fl:List Nat)(fz ord:List (Nat×List Nat))(gQ iF il:List (Nat×eY))(dyn:List Nat){n:Nat}{fn:Func}{F:List MV->Option MV}(hf:Tryz.prog.funcs[n]? =some fn)(hh:si (J3 g par tn bs fl fz ord gQ iF il dyn) n fn aS=true)(hF: ∀{ms r},F ms=some r->rE (J3 g par tn bs fl fz ord gQ iF il dyn) aS none fn ms=some r):SG (bo n F g):=s.fn (c':=J3 g par tn bs fl fz ord gQ iF il dyn) ⟨rfl,rfl,rfl,rfl,rfl,rfl,rfl,rfl,rfl⟩ rfl eP za zb BU jI qk hf hh (λ_=>rfl) (fresh:=none) rfl hF
theorem J5 {g:GT}(s:SG g)(aS:List (List Kd))(tn:Nat)(gQ iF il:List (Nat×eY)){n:Nat}{fn:Func}{F:List MV->Option MV}(hf:Tryz.prog.funcs[n]? =some fn)(hh:si (J3 g [] tn [] [] [] [] gQ iF il []) n fn aS=true)(hF: ∀{ms r},F ms=some r->rE (J3 g [] tn [] [] [] [] gQ iF il []) aS none fn ms=some r):SG (bo n F g):=J4 s aS [] tn [] [] [] [] gQ iF il [] hf hh hF
theorem fnC {g:GT}(s:SG g)(pos:Nat)(ks ko:List LK)(aS:List (List Kd))(par:List (Nat×Nat))(tn:Nat)(bs fl:List Nat)(fz ord:List (Nat×List Nat))(gQ iF il:List (Nat×eY))(dyn:List Nat){n:Nat}{fn:Func}{F:List MV->Option MV}(hf:Tryz.prog.funcs[n]? =some fn)(hs:cx.sig n=some (pos,ks,ko))(hh:E5 (J3 g par tn bs fl fz ord gQ iF il dyn) n fn aS=true)(hF: ∀{ms r},F ms=some r->AA (J3 g par tn bs fl fz ord gQ iF il dyn) aS pos ks ko fn ms=some r):SG (bo n F g):=s.fnC eP za zb BU jI qk hf hs (λ_=>rfl) λh=>⟨J3 g par tn bs fl fz ord gQ iF il dyn,⟨rfl,rfl,rfl,rfl,rfl,rfl,rfl,rfl,rfl⟩,rfl,hh,hF h⟩
theorem ac5 {g:GT}(s:cA Tryz.prog TD g)(pos:Nat)(ks ko:List LK)(aS:List (List Kd))(par:List (Nat×Nat))(tn:Nat)(bs fl:List Nat)(fz ord:List (Nat×List Nat))(gQ iF il:List (Nat×eY))(dyn:List Nat){n:Nat}{fn:Func}{F:List MV->Option MV}(hf:Tryz.prog.funcs[n]? =some fn)(hs:TD.sig n=some (pos,ks,ko))(hh:E5 (Ze g par tn bs fl fz ord gQ iF il dyn) n fn aS=true)(hF: ∀{ms r},F ms=some r->AA (Ze g par tn bs fl fz ord gQ iF il dyn) aS pos ks ko fn ms=some r):cA Tryz.prog TD (bo n F g):=s.fnC eP za zb Zf jI Sd hf hs (λ_=>rfl) λh=>⟨Ze g par tn bs fl fz ord gQ iF il dyn,⟨rfl,rfl,rfl,rfl,rfl,rfl,rfl,rfl,rfl⟩,rfl,hh,hF h⟩
theorem fnF {g:GT}(s:SG g)(ty:Nat)(aS:List (List Kd))(par:List (Nat×Nat))(tn:Nat)(bs fl:List Nat)(fz ord:List (Nat×List Nat))(gQ iF il:List (Nat×eY))(dyn:List Nat){n:Nat}{fn:Func}{F:List MV->Option MV}(hf:Tryz.prog.funcs[n]? =some fn)(hh:si (J3 g par tn bs fl fz ord gQ iF il dyn) n fn aS=true)(vM:vj (J3 g par tn bs fl fz ord gQ iF il dyn) n fn (some ty)=true)(hF: ∀{ms r},F ms=some r->rE (J3 g par tn bs fl fz ord gQ iF il dyn) aS (some ty) fn ms=some r):SG (bo n F g):=s.fn (c':=J3 g par tn bs fl fz ord gQ iF il dyn) ⟨rfl,rfl,rfl,rfl,rfl,rfl,rfl,rfl,rfl⟩ rfl eP za zb BU jI qk hf hh (λ_=>rfl) vM hF
abbrev cl1 (d:List MV->Option MV):List MV->Option MV:=λms=>match ms with|[.cell (.func off a0)]=>(match AI off 0 with|true=>d a0|false=>none)|_=>none
theorem Zh {d:List MV->Option MV}{B:List MV->Option MV}(h: ∀a0,B [.cell (.func 0 a0)]=d a0){ms:List MV}{r:MV}(e:cl1 d ms=some r):B ms=some r:=by
 unfold cl1 at e;split at e
 ·rename_i off a0;cases ho:AI off 0 with
  |true=>have:=OF ho;subst this;exact (h _).trans e
  |false=>rw [ho] at e;cases e
 ·cases e
abbrev cl2 (d:List MV->MV->Option MV):List MV->Option MV:=λms=>match ms with|[.cell (.func off a0),a1]=>(match AI off 0 with|true=>d a0 a1|false=>none)|_=>none
theorem Lk {d:List MV->MV->Option MV}{B:List MV->Option MV}(h: ∀a0 a1,B [.cell (.func 0 a0),a1]=d a0 a1){ms:List MV}{r:MV}(e:cl2 d ms=some r):B ms=some r:=by
 unfold cl2 at e;split at e
 ·rename_i off a0 a1;cases ho:AI off 0 with
  |true=>have:=OF ho;subst this;exact (h _ _).trans e
  |false=>rw [ho] at e;cases e
 ·cases e
def Jf (g:GT)(par:List (Nat×Nat))(n:Nat)(bs fl:List Nat)(fz ord:List (Nat×List Nat))(gQ iF il:List (Nat×eY))(dyn:List Nat):Ctx:=⟨mj yQ,kk,g,gv,frs,Fk Je,wN BT,par,n,bs,fl,BQ fz,BR Fl,uM BS,BQ ord,uQ gQ,uQ iF,uQ il,dl,dyn,3000⟩
theorem Ll {g:GT}(s:SG g)(aS:List (List Kd))(par:List (Nat×Nat))(tn:Nat)(bs fl:List Nat)(fz ord:List (Nat×List Nat))(gQ iF il:List (Nat×eY))(dyn:List Nat){n:Nat}{fn:Func}{F:List MV->Option MV}(hf:Tryz.prog.funcs[n]? =some fn)(hh:si (Jf g par tn bs fl fz ord gQ iF il dyn) n fn aS=true)(hF: ∀{ms r},F ms=some r->rE (Jf g par tn bs fl fz ord gQ iF il dyn) aS none fn ms=some r):SG (bo n F g):=s.fn (c':=Jf g par tn bs fl fz ord gQ iF il dyn) ⟨rfl,rfl,rfl,rfl,rfl,rfl,rfl,rfl,rfl⟩ rfl eP za zb BU jI qk hf hh (λ_=>rfl) (fresh:=none) rfl hF
theorem OC {g:GT}(s:SG g)(aS:List (List Kd))(tn:Nat)(gQ iF il:List (Nat×eY)){n:Nat}{fn:Func}{F:List MV->Option MV}(hf:Tryz.prog.funcs[n]? =some fn)(hh:si (Jf g [] tn [] [] [] [] gQ iF il []) n fn aS=true)(hF: ∀{ms r},F ms=some r->rE (Jf g [] tn [] [] [] [] gQ iF il []) aS none fn ms=some r):SG (bo n F g):=Ll s aS [] tn [] [] [] [] gQ iF il [] hf hh hF
theorem VI {g:GT}(s:SG g)(ty:Nat)(aS:List (List Kd))(par:List (Nat×Nat))(tn:Nat)(bs fl:List Nat)(fz ord:List (Nat×List Nat))(gQ iF il:List (Nat×eY))(dyn:List Nat){n:Nat}{fn:Func}{F:List MV->Option MV}(hf:Tryz.prog.funcs[n]? =some fn)(hh:si (Jf g par tn bs fl fz ord gQ iF il dyn) n fn aS=true)(vM:vj (Jf g par tn bs fl fz ord gQ iF il dyn) n fn (some ty)=true)(hF: ∀{ms r},F ms=some r->rE (Jf g par tn bs fl fz ord gQ iF il dyn) aS (some ty) fn ms=some r):SG (bo n F g):=s.fn (c':=Jf g par tn bs fl fz ord gQ iF il dyn) ⟨rfl,rfl,rfl,rfl,rfl,rfl,rfl,rfl,rfl⟩ rfl eP za zb BU jI qk hf hh (λ_=>rfl) vM hF
theorem agD {g:GT}(s:SG g)(pos:Nat)(ks ko:List LK)(aS:List (List Kd))(par:List (Nat×Nat))(tn:Nat)(bs fl:List Nat)(fz ord:List (Nat×List Nat))(gQ iF il:List (Nat×eY))(dyn:List Nat){n:Nat}{fn:Func}{F:List MV->Option MV}(hf:Tryz.prog.funcs[n]? =some fn)(hs:cx.sig n=some (pos,ks,ko))(hh:E5 (Jf g par tn bs fl fz ord gQ iF il dyn) n fn aS=true)(hF: ∀{ms r},F ms=some r->AA (Jf g par tn bs fl fz ord gQ iF il dyn) aS pos ks ko fn ms=some r):SG (bo n F g):=s.fnC eP za zb BU jI qk hf hs (λ_=>rfl) λh=>⟨Jf g par tn bs fl fz ord gQ iF il dyn,⟨rfl,rfl,rfl,rfl,rfl,rfl,rfl,rfl,rfl⟩,rfl,hh,hF h⟩
def rS (g:GT)(aS:List (List Kd))(par:List (Nat×Nat))(tn:Nat)(bs fl:List Nat)(fz ord:List (Nat×List Nat))(gQ iF il:List (Nat×eY))(dyn:List Nat)(n:Nat)(fn:Func):GT:=bo n (rE (Jf g par tn bs fl fz ord gQ iF il dyn) aS none fn) g
theorem nF {g:GT}(s:SG g){aS:List (List Kd)}{par:List (Nat×Nat)}{tn:Nat}{bs fl:List Nat}{fz ord:List (Nat×List Nat)}{gQ iF il:List (Nat×eY)}{dyn:List Nat}{n:Nat}{fn:Func}(hf:Tryz.prog.funcs[n]? =some fn)(hh:si (Jf g par tn bs fl fz ord gQ iF il dyn) n fn aS=true):SG (rS g aS par tn bs fl fz ord gQ iF il dyn n fn):=Ll s aS par tn bs fl fz ord gQ iF il dyn hf hh id
abbrev rP (g:GT) (aS:List (List Kd)) (tn:Nat) (gQ iF il:List (Nat×eY)) (n:Nat) (fn:Func):=rS g aS [] tn [] [] [] [] gQ iF il [] n fn
theorem bY {g:GT}(s:SG g){aS:List (List Kd)}{tn:Nat}{gQ iF il:List (Nat×eY)}{n:Nat}{fn:Func}(hf:Tryz.prog.funcs[n]? =some fn)(hh:si (Jf g [] tn [] [] [] [] gQ iF il []) n fn aS=true):SG (rP g aS tn gQ iF il n fn):=nF s hf hh
def rC (g:GT)(pos:Nat)(ks ko:List LK)(aS:List (List Kd))(par:List (Nat×Nat))(tn:Nat)(bs fl:List Nat)(fz ord:List (Nat×List Nat))(gQ iF il:List (Nat×eY))(dyn:List Nat)(n:Nat)(fn:Func):GT:=bo n (AA (Jf g par tn bs fl fz ord gQ iF il dyn) aS pos ks ko fn) g
theorem nG {g:GT}(s:SG g){pos:Nat}{ks ko:List LK}{aS:List (List Kd)}{par:List (Nat×Nat)}{tn:Nat}{bs fl:List Nat}{fz ord:List (Nat×List Nat)}{gQ iF il:List (Nat×eY)}{dyn:List Nat}{n:Nat}{fn:Func}(hf:Tryz.prog.funcs[n]? =some fn)(hs:cx.sig n=some (pos,ks,ko))(hh:E5 (Jf g par tn bs fl fz ord gQ iF il dyn) n fn aS=true):SG (rC g pos ks ko aS par tn bs fl fz ord gQ iF il dyn n fn):=agD s pos ks ko aS par tn bs fl fz ord gQ iF il dyn hf hs hh id
def iY (o:MV):Option MV:=gA o λcs=>
 cF cs λClient Seq Kind Path Value Version Session Span=>
 bT (decide (Kind=1)) (
 some (.agg (bj Client Seq Kind Path Value 0 Session 0))) (
 bd (
 bT (decide (Kind=2)) (
 some (0,[.b (decide (Kind=2))])) (
 bd (
 bT (decide (Kind=5)) (
 some (0,[.b (decide (Kind=5))])) (
 bd (
 bT (decide (Kind=10)) (
 some (0,[.b (decide (Kind=10))])) (
 some (0,[.b (decide (Kind=11))]))) λp2=>
 aY (AI p2.1 0)<|
 gC p2.2 λm8 mF=>
 gB m8 λx=>
 gN mF<|
 some (0,[.b x]))) λp1=>
 aY (AI p1.1 0)<|
 gC p1.2 λm9 BV=>
 gB m9 λx1=>
 gN BV<|
 some (0,[.b x1]))) λp=>
 aY (AI p.1 0)<|
 gC p.2 λSf BW=>
 gB Sf λx2=>
 gN BW<|
 bT x2 (
 some (.agg (bj Client Seq Kind Path ([]:List UInt8) 0 0 0))) (
 bT (decide (Kind=3)) (
 some (.agg (bj Client Seq Kind Path Value Version 0 0))) (
 bT (decide (Kind=4)) (
 some (.agg (bj Client Seq Kind Path ([]:List UInt8) Version 0 0))) (
 bT (decide (Kind=6)) (
 some (.agg (bj Client Seq Kind ([]:List UInt8) ([]:List UInt8) 0 Session Span))) (
 bd (
 bT (decide (Kind=7)) (
 some (0,[.b (decide (Kind=7))])) (
 some (0,[.b (decide (Kind=8))]))) λp3=>
 aY (AI p3.1 0)<|
 gC p3.2 λm11 sM=>
 gB m11 λx3=>
 gN sM<|
 bT x3 (
 some (.agg (bj Client Seq Kind ([]:List UInt8) ([]:List UInt8) 0 Session 0))) (
 bT (decide (Kind=9)) (
 some (.agg (bj Client Seq Kind ([]:List UInt8) ([]:List UInt8) 0 0 Span))) (
 some (.agg (bj Client Seq Kind ([]:List UInt8) ([]:List UInt8) 0 0 0)))))))))
def qM:GT:=bo 81 (je iY) ac4
theorem ul:SG qM:=Ll OB [] [] 62 [] [34,36,49] [(1,[1])] [(14,[0,1,2,3,4,5,6,7,8,9,10,11]),(17,[0,1,2,3,4,5,6,7])] [] [(12,⟨[1,2,3,12],[],[],[(0,[(26,.sc (.k .b))])],[]⟩),(7,⟨[1,2,3,12],[],[],[(0,[(15,.sc (.k .b))])],[]⟩),(6,⟨[1,2,3,12],[],[],[(0,[(15,.sc (.k .b))])],[]⟩),(5,⟨[1,2,3,12],[],[],[(0,[(15,.sc (.k .b))])],[]⟩)] [] [] Tryz.func81 (by kernel_rfl) (ca (λ_=>by kernel_rfl))
def pg (o:MV):Option MV:=gA o λcs=>
 cF cs λClient Seq Kind Path Value Version Session Span=>
 bd (
 bT (decide ((0:Int)<=Client)) (
 bT (decide (Client<=1000)) (
 bT (decide ((1:Int)<=Seq)) (
 some [.b (decide (Seq<=1000000000))]) (
 some [.b false])) (
 some [.b false])) (
 some [.b false])) λvs=>
 gC vs λm8 mF=>
 gB m8 λwho=>
 gN mF<|
 bd (
 bT who (
 bT (decide ((0:Int)<=Kind)) (
 bT (decide (Kind<=11)) (
 bT (decide ((Path.length:Int)<=100)) (
 bT (decide ((Value.length:Int)<=1000)) (
 bd (iY (.agg (bj Client Seq Kind Path Value Version Session Span))) λrA=>
 gA rA λGc=>
 cF Gc λql Lm BX BZ sN mG mH B0=>
 some [.b ((decide (Client=ql))&&((decide (Seq=Lm))&&((decide (Kind=BX))&&((decide (Path=BZ))&&((decide (Value=sN))&&((decide (Version=mG))&&((decide (Session=mH))&&(decide (Span=B0)))))))))]) (
 some [.b false])) (
 some [.b false])) (
 some [.b false])) (
 some [.b false])) (
 some [.b false])) λnT=>
 gC nT λVJ Jg=>
 gB VJ λx=>
 gN Jg<|
 some (.b x)
def Fo:GT:=bo 35 (je pg) qM
theorem DU:SG Fo:=Ll ul [] [] 51 [] [] [] [(2,[0,1,2,3,4,5,6,7,8,9,10,11,12,13,14,15,16,17,18,19,20,21,22,23,24,25,26,27,28,29])] [(2,⟨[1,3],[],[],[(0,[(2,.sc (.k .b))])],[]⟩),(1,⟨[1],[],[],[(0,[(3,.sc (.k .b))])],[]⟩)] [] [] [] Tryz.func35 (by kernel_rfl) (ca (λ_=>by kernel_rfl))
def wO:GT:=rP Fo [] 6 [] [] [] 183 Tryz.f183
theorem ya:SG wO:=bY DU Tryz.func183 (by kernel_rfl)
def sO:GT:=rP wO [] 20 [] [] [] 121 Tryz.f121
theorem vr:SG sO:=bY ya Tryz.func121 (by kernel_rfl)
def mI:GT:=rP sO [] 9 [] [] [] 120 Tryz.f120
theorem qm:SG mI:=bY vr Tryz.func120 (by kernel_rfl)
def dv:GT:=rP mI [] 49 [(8,⟨[0,1,2,8,9],[],[],[(0,[(6,.sc (.k (.i .i64))),(7,.sc (.k .b))])],[]⟩)] [(6,⟨[0,1,2,8,11],[],[],[(0,[(9,.sc (.k (.i .i64))),(10,.sc (.k (.i .i64)))])],[]⟩)] [(3,⟨[0,1,2,8],[],[(9,.sc (.k (.i .i64))),(10,.sc (.k (.i .i64)))],[(2,[(9,.sc (.k (.i .i64)))])],[]⟩)] 119 Tryz.f119
theorem fO:SG dv:=bY qm Tryz.func119 (by kernel_rfl)
def pi:GT:=rP dv [] 12 [] [] [] 62 Tryz.f62
theorem sP:SG pi:=bY fO Tryz.func62 (by kernel_rfl)
def B1:GT:=rP pi [] 22 [] [] [] 36 Tryz.f36
theorem B2:SG B1:=bY sP Tryz.func36 (by kernel_rfl)
def pj:GT:=rP B1 [] 58 [(10,⟨[2,4,6,8],[],[],[(0,[(47,.sc (.k .b))])],[]⟩),(8,⟨[2,3,4,6,7,8],[],[],[(0,[(37,.sc (.k .b))])],[]⟩),(6,⟨[2,3,4,6,7,8],[],[],[(0,[(27,.sc (.k .b))])],[]⟩)] [(9,⟨[2,8],[],[],[(0,[(4,.box [.k (.i .i64),.k (.i .i64),.k (.i .i64),.k .s,.k (.i .i64),.k .l]),(6,.box [.k (.i .i64),.k (.i .i64),.k (.i .i64),.k .s,.k (.i .i64),.k .l])]),(1,[(4,.box [.k (.i .i64),.k (.i .i64),.k (.i .i64),.k .s,.k (.i .i64),.k .l]),(5,.sc (.k .b))])],[]⟩),(5,⟨[2,3,7,8],[],[],[(0,[(4,.box [.k (.i .i64),.k (.i .i64),.k (.i .i64),.k .s,.k (.i .i64),.k .l]),(6,.box [.k (.i .i64),.k (.i .i64),.k (.i .i64),.k .s,.k (.i .i64),.k .l])]),(1,[(4,.box [.k (.i .i64),.k (.i .i64),.k (.i .i64),.k .s,.k (.i .i64),.k .l]),(5,.sc (.k .b))])],[]⟩)] [] 58 Tryz.f58
theorem sQ:SG pj:=bY B2 Tryz.func58 (by kernel_rfl)
def mJ:GT:=rC pj 0 bW bW [] [(0,1000000)] 2 [] [] [] [] [] [] [] [] 105 Tryz.f105
theorem qn:SG mJ:=nG sQ Tryz.func105 (by kernel_rfl) (by kernel_rfl)
def nH:GT:=rP mJ [] 9 [] [] [] 144 Tryz.f144
theorem re:SG nH:=bY qn Tryz.func144 (by kernel_rfl)
def dg:GT:=rP nH [] 49 [(8,⟨[0,1,2,8,9],[],[],[(0,[(6,.sc (.k (.i .i64))),(7,.sc (.k .b))])],[]⟩)] [(6,⟨[0,1,2,8,11],[],[],[(0,[(9,.sc (.k (.i .i64))),(10,.sc (.k (.i .i64)))])],[]⟩)] [(3,⟨[0,1,2,8],[],[(9,.sc (.k (.i .i64))),(10,.sc (.k (.i .i64)))],[(2,[(9,.sc (.k (.i .i64)))])],[]⟩)] 143 Tryz.f143
theorem fh:SG dg:=bY re Tryz.func143 (by kernel_rfl)
def qN:GT:=rP dg [] 12 [] [] [] 82 Tryz.f82
theorem um:SG qN:=bY fh Tryz.func82 (by kernel_rfl)
def Fp:GT:=rP qN [] 14 [] [] [] 37 Tryz.f37
theorem DV:SG Fp:=bY um Tryz.func37 (by kernel_rfl)
def j6:GT:=rP Fp [] 18 [(1,⟨[0,1],[],[],[(0,[(4,.sc (.k .b))])],[]⟩)] [] [] 251 Tryz.f251
theorem mX:SG j6:=bY DV Tryz.func251 (by kernel_rfl)
def j7:GT:=rP j6 [] 15 [] [] [] 232 Tryz.f232
theorem mY:SG j7:=bY mX Tryz.func232 (by kernel_rfl)
def nI:GT:=rP j7 [] 11 [] [] [] 193 Tryz.f193
theorem rf:SG nI:=bY mY Tryz.func193 (by kernel_rfl)
def uR:GT:=rP nI [] 6 [] [] [] 237 Tryz.f237
theorem wP:SG uR:=bY rf Tryz.func237 (by kernel_rfl)
def qO:GT:=rP uR [] 21 [] [] [(2,⟨[1,2],[],[(10,.mp ⟨true,[],true⟩)],[(1,[(6,.sc (.k (.i .i64)))]),(2,[])],[]⟩)] 275 Tryz.f275
theorem uo:SG qO:=bY wP Tryz.func275 (by kernel_rfl)
def nJ:GT:=rP qO [] 8 [] [] [] 262 Tryz.f262
theorem rh:SG nJ:=bY uo Tryz.func262 (by kernel_rfl)
def kW:GT:=rP nJ [] 9 [] [] [] 236 Tryz.f236
theorem od:SG kW:=bY rh Tryz.func236 (by kernel_rfl)
def zg:GT:=rP kW [] 20 [(1,⟨[0],[],[],[(0,[(2,.sc (.k .b))])],[]⟩)] [] [] 197 Tryz.f197
theorem zL:SG zg:=bY od Tryz.func197 (by kernel_rfl)
def wQ:GT:=rP zg [] 6 [] [] [] 196 Tryz.f196
theorem yb:SG wQ:=bY zL Tryz.func196 (by kernel_rfl)
def jJ:GT:=rP wQ [] 19 [] [] [(2,⟨[0,1,7],[],[(8,.sc (.k (.i .i64)))],[(1,[(4,.sc (.k (.i .i64)))]),(2,[])],[]⟩)] 234 Tryz.f234
theorem mK:SG jJ:=bY yb Tryz.func234 (by kernel_rfl)
def iq:GT:=rP jJ [] 9 [] [] [] 195 Tryz.f195
theorem kX:SG iq:=bY mK Tryz.func195 (by kernel_rfl)
def B3:GT:=rP iq [] 34 [(7,⟨[],[],[],[(0,[(2,.sc (.own 24 9 true)),(3,.sc (.k .b)),(6,.sc (.own 24 9 true))])],[24]⟩),(2,⟨[0,4,5],[],[],[(0,[(12,.sc (.k .b))])],[24]⟩)] [] [] 137 Tryz.f137
theorem B4:SG B3:=bY kX Tryz.func137 (by kernel_rfl)
def qP:GT:=rP B3 [] 6 [] [] [] 264 Tryz.f264
theorem uq:SG qP:=bY B4 Tryz.func264 (by kernel_rfl)
def nK:GT:=rP qP [] 20 [] [] [] 240 Tryz.f240
theorem rj:SG nK:=bY uq Tryz.func240 (by kernel_rfl)
def kY:GT:=rP nK [] 36 [] [] [(2,⟨[0,1,9,10],[],[(11,.sc (.k (.i .i64)))],[(1,[(4,.sc (.k (.i .i64)))]),(2,[])],[]⟩)] 202 Tryz.f202
theorem oe:SG kY:=bY rj Tryz.func202 (by kernel_rfl)
def B5:GT:=rP kY [] 29 [(3,⟨[5,6,7,8],[],[],[(0,[(4,.sc (.k .b))])],[]⟩)] [] [] 146 Tryz.f146
theorem B6:SG B5:=bY oe Tryz.func146 (by kernel_rfl)
def mL:GT:=rP B5 [] 15 [] [] [] 245 Tryz.f245
theorem qo:SG mL:=bY B6 Tryz.func245 (by kernel_rfl)
def dh:GT:=rP mL [] 49 [(8,⟨[0,1,2,8,9],[],[],[(0,[(6,.sc (.k (.i .i64))),(7,.sc (.k .b))])],[]⟩)] [(6,⟨[0,1,2,8,11],[],[],[(0,[(9,.sc (.k (.i .i64))),(10,.sc (.k (.i .i64)))])],[]⟩)] [(3,⟨[0,1,2,8],[],[(9,.sc (.k (.i .i64))),(10,.sc (.k (.i .i64)))],[(2,[(9,.sc (.k (.i .i64)))])],[]⟩)] 244 Tryz.f244
theorem fj:SG dh:=bY qo Tryz.func244 (by kernel_rfl)
def pk:GT:=rP dh [] 12 [] [] [] 216 Tryz.f216
theorem sR:SG pk:=bY fj Tryz.func216 (by kernel_rfl)
def B7:GT:=rP pk [] 11 [] [] [] 73 Tryz.f73
theorem B8:SG B7:=bY sR Tryz.func73 (by kernel_rfl)
def fU:GT:=rP B7 [] 19 [] [] [(2,⟨[0,1],[],[(5,.sc (.k (.i .i64)))],[(1,[(4,.sc (.k (.i .i64)))]),(2,[])],[]⟩)] 198 Tryz.f198
theorem jU:SG fU:=bY B8 Tryz.func198 (by kernel_rfl)
def iP:GT:=rP fU [] 40 [] [(11,⟨[4,7,8],[],[],[(0,[(6,.sc (.k (.i .u32)))])],[]⟩)] [(8,⟨[4],[],[(6,.sc (.k (.i .u32))),(7,.sc (.k (.i .u32))),(8,.sc (.k (.i .i64)))],[(4,[(6,.sc (.k (.i .u32)))])],[]⟩),(3,⟨[0],[],[(4,.sc (.k (.i .u32))),(5,.sc (.k (.i .i64)))],[(2,[(4,.sc (.k (.i .u32)))])],[]⟩)] 239 Tryz.f239
theorem lj:SG iP:=bY jU Tryz.func239 (by kernel_rfl)
def ec:GT:=rP iP [] 87 [(17,⟨[0,1,5,6,7,9,11],[],[],[(0,[(85,.sc (.k .b))])],[]⟩),(9,⟨[0,1,5,6,7,8,9],[],[],[(0,[(47,.sc (.k .b))])],[]⟩)] [] [(12,⟨[0,1,5,6,7],[],[(9,.sc (.k (.i .u32))),(11,.sc (.k (.i .i64)))],[(1,[(4,.sc (.k (.i .i64)))]),(4,[])],[]⟩),(6,⟨[0,1,5,6,7,8],[],[(9,.sc (.k (.i .u32))),(10,.sc (.k (.i .i64)))],[(2,[(9,.sc (.k (.i .u32)))])],[]⟩)] 199 Tryz.f199
theorem iC:SG ec:=bY lj Tryz.func199 (by kernel_rfl)
def nL:GT:=rP ec [] 36 [] [] [] 138 Tryz.f138
theorem rk:SG nL:=bY iC Tryz.func138 (by kernel_rfl)
def zh:GT:=rP nL [] 16 [] [] [] 74 Tryz.f74
theorem zM:SG zh:=bY rk Tryz.func74 (by kernel_rfl)
def qQ:GT:=rP zh [] 20 [] [] [] 220 Tryz.f220
theorem ur:SG qQ:=bY zM Tryz.func220 (by kernel_rfl)
def Fq:GT:=rP qQ [] 23 [] [] [] 172 Tryz.f172
theorem DW:SG Fq:=bY ur Tryz.func172 (by kernel_rfl)
def sS:GT:=rP Fq [[.s],[.b],[.l],[.s],[.i .i64]] 44 [] [] [] 217 Tryz.f217
theorem vt:SG sS:=bY DW Tryz.func217 (by kernel_rfl)
def wR:GT:=rS sS [] [] 38 [] [] [] [(6,[0,1,3,4,5,6,7,2,8,9,10,11,12,0,1,3,4,5,6,7,8,2,9,10,11,12,13,2,8])] [] [] [] [] 170 Tryz.f170
theorem yc:SG wR:=nF vt Tryz.func170 (by kernel_rfl)
def mM:GT:=rC wR 0 bW bW [] [(0,1000000)] 26 [22] [] [] [(1,[0,1,2,3,4,5,6,7,8,9,10,11,12,13,14,15,16])] [] [(1,⟨[0,1],[],[],[(0,[(1000000,.box [.k .l,.k (.i .i64),.k .l,.k .l,.k .l,.k (.i .i64),.k (.i .i64),.k (.i .i64),.k .s,.k .s,.k (.i .i64),.k (.i .i64),.k (.i .i64),.k (.i .i64),.k (.i .i64),.k (.i .i64),.k .s,.k (.i .i64),.k .l,.own 2000019 77 false])])],[]⟩)] [] [] 171 Tryz.f171
theorem qp:SG mM:=nG yc Tryz.func171 (by kernel_rfl) (by kernel_rfl)
def nM:GT:=rC mM 0 bW bW [] [(0,1000000)] 60 [] [] [] [(0,[0,1,2,3,4,5,6,7,8,9,10,11,12,13,14,15,16,17,18,19]),(2,[0,1,2,3,4,5,6,7,8,9,10,11,12,13,14,15,16,17,18,19,20,21,22,23,24,25,26,27,28,29,30,31,32,33])] [(0,⟨[0,1000000],[2000019],[],[(0,[(21,.sc (.k .b))])],[]⟩)] [] [] [] 106 Tryz.f106
theorem rl:SG nM:=nG qp Tryz.func106 (by kernel_rfl) (by kernel_rfl)
def sU:GT:=rC nM 0 bW bW [] [(0,1000000)] 35 [] [24] [(1,[2])] [(0,[0,1,2,3,4,5,6,7,8,9,10,11,12,13,14,15,16]),(1,[0,1,2,3,4,5,6,7,8,9,10,11,12,13,14,15,16,17,18,19])] [] [] [] [] 107 Tryz.f107
theorem vu:SG sU:=nG rl Tryz.func107 (by kernel_rfl) (by kernel_rfl)
def kZ:GT:=rP sU [] 35 [(2,⟨[2,3,8,9],[],[],[(0,[(31,.sc (.k .b))])],[]⟩)] [] [] 221 Tryz.f221
theorem oh:SG kZ:=bY vu Tryz.func221 (by kernel_rfl)
def Fs:GT:=rP kZ [] 59 [] [] [] 173 Tryz.f173
theorem DX:SG Fs:=bY oh Tryz.func173 (by kernel_rfl)
def sV:GT:=rC Fs 0 bW bW [] [(0,1000000)] 64 [] [] [] [(0,[0,1,2,3,4,5,6,7,8,9,10,11,12,13,14,15,16,17,18,19,20,21,22,23,24,25,26,27,28,29,30,31,32,33]),(3,[0,1,2,3,4,5,6,7,8,9,10,11,12,13,14,15,16])] [] [(3,⟨[0],[],[],[(0,[(1000000,.box [.k .l,.k (.i .i64),.k .l,.k .l,.k .l,.k (.i .i64),.k (.i .i64),.k (.i .i64),.k .s,.k .s,.k (.i .i64),.k (.i .i64),.k (.i .i64),.k (.i .i64),.k (.i .i64),.k (.i .i64),.k .s,.k (.i .i64),.k .l,.own 2000019 77 false])])],[]⟩)] [] [] 108 Tryz.f108
theorem vv:SG sV:=nG DX Tryz.func108 (by kernel_rfl) (by kernel_rfl)
def mN:GT:=rS sV [] [] 26 [] [] [] [(6,[0,1,2,3,4,5,6,7,8])] [] [] [(4,⟨[0,1,12],[],[(13,.sc (.k (.i .i64)))],[(1,[(4,.sc (.k .b))]),(2,[])],[]⟩)] [] 142 Tryz.f142
theorem qq:SG mN:=nF vv Tryz.func142 (by kernel_rfl)
def B9:GT:=rP mN [] 38 [(3,⟨[5,6,7,8],[],[],[(0,[(4,.sc (.k .b))])],[]⟩)] [] [] 222 Tryz.f222
theorem Ca:SG B9:=bY qq Tryz.func222 (by kernel_rfl)
def wS:GT:=rP B9 [] 53 [(6,⟨[1,3,6,8],[],[],[(0,[(26,.sc (.k .b))])],[47,51]⟩)] [] [] 174 Tryz.f174
theorem yd:SG wS:=bY Ca Tryz.func174 (by kernel_rfl)
def nN:GT:=rC wS 0 bW bW [] [(0,1000000)] 31 [] [] [] [(0,[0,1,2,3,4,5,6,7,8,9,10,11,12,13,14,15,16,17,18,19,20,21,22,23,24,25,26,27,28])] [] [] [] [] 109 Tryz.f109
theorem rm:SG nN:=nG yd Tryz.func109 (by kernel_rfl) (by kernel_rfl)
def Cb:GT:=rP nN [] 14 [] [] [] 224 Tryz.f224
theorem Cc:SG Cb:=bY rm Tryz.func224 (by kernel_rfl)
def Cd:GT:=rS Cb [] [] 66 [62] [] [] [] [] [(12,⟨[1,8,13,33,34,35],[],[],[(0,[(10,.sc (.own 63 9 true))])],[63]⟩)] [(7,⟨[1,8,33,34],[],[(10,.sc (.own 63 9 true)),(35,.sc (.k (.i .i64)))],[(2,[(10,.sc (.own 63 9 true))])],[63]⟩)] [] 175 Tryz.f175
theorem Ce:SG Cd:=nF Cc Tryz.func175 (by kernel_rfl)
def qR:GT:=rC Cd 0 bW bW [] [(0,1000000)] 24 [] [] [] [(0,[0,1,2,3,4,5,6,7,8,9,10,11,12,13,14,15,16,17,18,19,20,21,22,23])] [] [] [] [] 110 Tryz.f110
theorem uu:SG qR:=nG Ce Tryz.func110 (by kernel_rfl) (by kernel_rfl)
def Cf:GT:=rS qR [] [] 52 [] [] [] [(8,[0,1,3,4,5,6,7,8,9,10,2,11,12,13,14,0,1,3,4,5,6,7,8,9,10,11,2,12,13,14,15,2,11])] [(2,⟨[1,2,3,6,8,9],[],[],[(0,[(16,.sc (.k .b))])],[39,48,49]⟩)] [] [] [] 176 Tryz.f176
theorem Cg:SG Cf:=nF uu Tryz.func176 (by kernel_rfl)
def qS:GT:=rC Cf 0 bW bW [] [(0,1000000)] 29 [] [] [] [(0,[0,1,2,3,4,5,6,7,8,9,10,11,12,13,14,15,16,17,18,19,20,21,22,23,24,25,26,27,28])] [] [] [] [] 111 Tryz.f111
theorem uv:SG qS:=nG Cg Tryz.func111 (by kernel_rfl) (by kernel_rfl)
def zi:GT:=rS qS [] [] 36 [] [] [] [(5,[0,1,2,3,4,5,6,7,8,9,10,11,12,13,14])] [] [] [] [] 177 Tryz.f177
theorem zN:SG zi:=nF uv Tryz.func177 (by kernel_rfl)
def pn:GT:=rC zi 0 bW bW [] [(0,1000000)] 24 [] [] [] [(0,[0,1,2,3,4,5,6,7,8,9,10,11,12,13,14,15,16,17,18,19,20,21,22,23])] [] [] [] [] 112 Tryz.f112
theorem sW:SG pn:=nG zN Tryz.func112 (by kernel_rfl) (by kernel_rfl)
def zj:GT:=rP pn [] 26 [] [] [] 178 Tryz.f178
theorem zP:SG zj:=bY sW Tryz.func178 (by kernel_rfl)
def Ch:GT:=rS zj [] [] 40 [29,34] [] [] [] [(6,⟨[1,4,6,7,9,12,13,14],[30,35],[],[(0,[(25,.sc (.k .b))])],[30,35]⟩)] [] [(4,⟨[1,4,12,13],[],[(6,.sc (.own 30 9 true)),(7,.box [.own 35 98 true]),(14,.sc (.k (.i .i64)))],[(2,[(6,.sc (.own 30 9 true)),(7,.box [.own 35 98 true])])],[30,35]⟩)] [] 228 Tryz.f228
theorem Ci:SG Ch:=nF zP Tryz.func228 (by kernel_rfl)
def qT:GT:=rC Ch 0 bW bW [] [(0,1000000)] 41 [36] [] [] [] [] [] [(3,⟨[0,23,24],[],[(25,.sc (.k (.i .i64))),(1000000,.box [.k .l,.k (.i .i64),.k .l,.k .l,.k .l,.k (.i .i64),.k (.i .i64),.k (.i .i64),.k .s,.k .s,.k (.i .i64),.k (.i .i64),.k (.i .i64),.k (.i .i64),.k (.i .i64),.k (.i .i64),.k .s,.k (.i .i64),.k .l,.own 2000019 77 false])],[(2,[(1000000,.box [.k .l,.k (.i .i64),.k .l,.k .l,.k .l,.k (.i .i64),.k (.i .i64),.k (.i .i64),.k .s,.k .s,.k (.i .i64),.k (.i .i64),.k (.i .i64),.k (.i .i64),.k (.i .i64),.k (.i .i64),.k .s,.k (.i .i64),.k .l,.own 2000019 77 false])])],[]⟩)] [] 179 Tryz.f179
theorem uw:SG qT:=nG Ci Tryz.func179 (by kernel_rfl) (by kernel_rfl)
def po:GT:=rC qT 0 bW bW [] [(0,1000000)] 37 [] [] [] [(0,[0,1,2,3,4,5,6,7,8,9,10,11,12,13,14,15,16,17,18,19,20,21,22,23])] [] [(2,⟨[0],[],[],[(0,[(1000000,.box [.k .l,.k (.i .i64),.k .l,.k .l,.k .l,.k (.i .i64),.k (.i .i64),.k (.i .i64),.k .s,.k .s,.k (.i .i64),.k (.i .i64),.k (.i .i64),.k (.i .i64),.k (.i .i64),.k (.i .i64),.k .s,.k (.i .i64),.k .l,.own 2000019 77 false])])],[]⟩)] [] [] 113 Tryz.f113
theorem sX:SG po:=nG uw Tryz.func113 (by kernel_rfl) (by kernel_rfl)
def Cj:GT:=rS po [] [] 48 [37,42] [] [] [] [] [] [(8,⟨[1,4,24,25],[],[(7,.sc (.own 38 3 true)),(8,.box [.k (.i .i64),.own 43 126 true]),(26,.sc (.k (.i .i64)))],[(3,[(7,.sc (.own 38 3 true)),(8,.box [.k (.i .i64),.own 43 126 true])])],[38,43]⟩)] [] 180 Tryz.f180
theorem Ck:SG Cj:=nF sX Tryz.func180 (by kernel_rfl)
def qU:GT:=rC Cj 0 bW bW [] [(0,1000000)] 50 [] [33] [(1,[2])] [(0,[0,1,2,3,4,5,6,7,8,9,10,11,12,13,14,15,16,17,18]),(3,[0,1,2,3,4,5,6,7,8,9,10,11,12])] [] [] [(5,⟨[0,40,41],[],[(42,.sc (.k (.i .i64))),(1000000,.box [.k .l,.k (.i .i64),.k .l,.k .l,.k .l,.k (.i .i64),.k (.i .i64),.k (.i .i64),.k .s,.k .s,.k (.i .i64),.k (.i .i64),.k (.i .i64),.k (.i .i64),.k (.i .i64),.k (.i .i64),.k .s,.k (.i .i64),.k .l,.own 2000019 77 false])],[(2,[(1000000,.box [.k .l,.k (.i .i64),.k .l,.k .l,.k .l,.k (.i .i64),.k (.i .i64),.k (.i .i64),.k .s,.k .s,.k (.i .i64),.k (.i .i64),.k (.i .i64),.k (.i .i64),.k (.i .i64),.k (.i .i64),.k .s,.k (.i .i64),.k .l,.own 2000019 77 false])])],[]⟩)] [] 114 Tryz.f114
theorem ux:SG qU:=nG Ck Tryz.func114 (by kernel_rfl) (by kernel_rfl)
def jK:GT:=rS qU [] [] 19 [] [] [] [(4,[0,1,2,3,4,5])] [] [] [(2,⟨[0,3,7],[],[(8,.sc (.k (.i .i64)))],[(1,[(4,.sc (.k (.i .i64)))]),(2,[])],[]⟩)] [] 250 Tryz.f250
theorem mO:SG jK:=nF ux Tryz.func250 (by kernel_rfl)
def ir:GT:=rP jK [] 9 [] [] [] 229 Tryz.f229
theorem lc:SG ir:=bY mO Tryz.func229 (by kernel_rfl)
def Ft:GT:=rS ir [] [] 36 [33] [] [] [(9,[0,1,3,2,4,5,6,7,8,0,1,3,4,2,5,6,7,8,9,2,4])] [] [] [] [] 181 Tryz.f181
theorem DY:SG Ft:=nF lc Tryz.func181 (by kernel_rfl)
def pq:GT:=rC Ft 0 bW bW [] [(0,1000000)] 38 [] [] [] [(0,[0,1,2,3,4,5,6,7,8,9,10,11,12,13,14,15,16,17,18]),(1,[0,1,2,3,4,5,6,7,8,9,10,11,12,13,14,15,16,17,18,19])] [] [] [] [] 115 Tryz.f115
theorem sY:SG pq:=nG DY Tryz.func115 (by kernel_rfl) (by kernel_rfl)
def Cl:GT:=rS pq [] [] 2 [1] [] [] [] [] [] [] [] 59 Tryz.f59
theorem Cm:SG Cl:=nF sY Tryz.func59 (by kernel_rfl)
def uS:GT:=rP Cl [] 48 [(6,⟨[2,3,5,6],[],[],[(0,[(4,.sc (.k .b))])],[]⟩),(1,⟨[2,3],[],[],[(0,[(20,.sc (.k .b))])],[]⟩)] [] [] 27 Tryz.f27
theorem wT:SG uS:=bY Cm Tryz.func27 (by kernel_rfl)
def wU:GT:=rC uS 2 ML ML [[.i .i64,.s],[]] [(2,1000002)] 17 [14] [] [] [] [] [(3,⟨[1,2,3,5],[],[],[(0,[(1000002,.box [.own 2000000 79 false])])],[]⟩)] [] [] 118 Tryz.f118
theorem ye:SG wU:=nG wT Tryz.func118 (by kernel_rfl) (by kernel_rfl)
def Cn:GT:=rS wU [] [] 26 [] [25] [(8,[7])] [(8,[0,1,2,3,4])] [] [] [(4,⟨[4,13,14],[],[(6,.sc (.own 12 75 false)),(7,.box [.own 2000000 79 false]),(15,.sc (.k (.i .i64)))],[(2,[(6,.sc (.own 12 75 false)),(7,.box [.own 2000000 79 false])])],[]⟩)] [] 60 Tryz.f60
theorem Co:SG Cn:=nF ye Tryz.func60 (by kernel_rfl)
def zk:GT:=rS Cn [] [] 103 [] [21] [(2,[7])] [(3,[0,1,2,3,4]),(5,[1,2,5,0,3,4,6]),(6,[0,1,2,3,4,5,6,7,8,9,10,11,12,13,14,15]),(7,[0,1,2,3,4,5,6,7,8,9,10,11,12,13]),(10,[0,1,2,3,4,5,6,7,8,9,10,11]),(11,[0,1,2,3,4,5,6,7,8,9,10,11,12,13,14,15,16]),(12,[0,1,2,3,4,5,6,8,9,7,10,11,0,1,2,3,4,5,6,7,8,9,10,11,12,9,7])] [] [(10,⟨[4,5,11,12],[],[],[(0,[(26,.box [.k .l,.k (.i .i64),.k .l,.k .l,.own 52 57 false,.k (.i .i64),.k (.i .i64),.k (.i .i64),.k .s,.k .s,.k (.i .i64),.k (.i .i64),.k (.i .i64),.k (.i .i64),.k (.i .i64),.k (.i .i64),.k .s,.k (.i .i64),.k .l,.own 2000019 77 true]),(9,.pt 26 0)])],[89,90,2000019]⟩)] [] [105,106,107,108,109,110,111,112,113,114,115] 18 Tryz.f18
theorem zQ:SG zk:=nF Co Tryz.func18 (by kernel_rfl)
def Fu:GT:=rP zk [] 4 [] [] [] 71 Tryz.f71
theorem DZ:SG Fu:=bY zQ Tryz.func71 (by kernel_rfl)
def Fw:GT:=rP Fu [] 2 [] [] [] 72 Tryz.f72
theorem D5:SG Fw:=bY DZ Tryz.func72 (by kernel_rfl)
def Fx:GT:=rP Fw [] 4 [] [] [] 26 Tryz.f26
theorem D6:SG Fx:=bY D5 Tryz.func26 (by kernel_rfl)
def wV (kind:MV):Option MV:=gI .i64 kind λmP=>
 bT (decide (mP=1)) (
 some (.s ([112,118,115]:List UInt8))) (
 bd (
 bT (decide (mP=2)) (
 some (0,[.b (decide (mP=2))])) (
 bd (
 bT (decide (mP=5)) (
 some (0,[.b (decide (mP=5))])) (
 bd (
 bT (decide (mP=10)) (
 some (0,[.b (decide (mP=10))])) (
 some (0,[.b (decide (mP=11))]))) λp2=>
 aY (AI p2.1 0)<|
 gC p2.2 λm lF=>
 gB m λx=>
 gN lF<|
 some (0,[.b x]))) λp1=>
 aY (AI p1.1 0)<|
 gC p1.2 λm1 lk=>
 gB m1 λx1=>
 gN lk<|
 some (0,[.b x1]))) λp=>
 aY (AI p.1 0)<|
 gC p.2 λm2 sZ=>
 gB m2 λx2=>
 gN sZ<|
 bT x2 (
 some (.s ([112]:List UInt8))) (
 bT (decide (mP=3)) (
 some (.s ([112,118,110]:List UInt8))) (
 bT (decide (mP=4)) (
 some (.s ([112,110]:List UInt8))) (
 bT (decide (mP=6)) (
 some (.s ([115,116]:List UInt8))) (
 bd (
 bT (decide (mP=7)) (
 some (0,[.b (decide (mP=7))])) (
 some (0,[.b (decide (mP=8))]))) λp3=>
 aY (AI p3.1 0)<|
 gC p3.2 λm3 fP=>
 gB m3 λx3=>
 gN fP<|
 bT x3 (
 some (.s ([115]:List UInt8))) (
 bT (decide (mP=9)) (
 some (.s ([116]:List UInt8))) (
 some (.s ([]:List UInt8)))))))))
def Jh:GT:=bo 124 (je wV) Fx
theorem G9:SG Jh:=J5 D6 [] 22 [] [(16,⟨[3],[],[],[(0,[(17,.sc (.k .b))])],[]⟩),(7,⟨[3],[],[],[(0,[(6,.sc (.k .b))])],[]⟩),(6,⟨[3],[],[],[(0,[(6,.sc (.k .b))])],[]⟩),(5,⟨[3],[],[],[(0,[(6,.sc (.k .b))])],[]⟩)] [] Tryz.func124 (by kernel_rfl) (ca (λ_=>by kernel_rfl))
def ku (sA c:MV):Option MV:=gS sA λyf=>
 gI .u8 c λc1=>
 bd (Loop (λlF=>
 gC lF λm lk=>
 gI .i64 m λi=>
 gN lk<|
 bT (decide (i<(yf.length:Int))) (
 aY (decide ((0:Int)<=i/\i<(yf.length:Int)))<|
 bT (decide (((yf.getD (sh i) 0).toNat:Int)=c1)) (
 some (.inr (1,[.b true]))) (
 some (.inl [.i .i64 (aQ .i64 (i+1))]))) (
 some (.inr (2,[])))) [.i .i64 0]) λp=>
 bT (AI p.1 2) (
 gN p.2<|
 some (.b false)) (
 aY (AI p.1 1)<|
 gC p.2 λm1 sZ=>
 gB m1 λx=>
 gN sZ<|
 some (.b x))
def Sg:GT:=bo 125 (oc ku) Jh
theorem Ln:SG Sg:=J5 G9 [] 17 [] [] [(2,⟨[0,1],[],[(5,.sc (.k (.i .i64)))],[(1,[(4,.sc (.k .b))]),(2,[])],[]⟩)] Tryz.func125 (by kernel_rfl) (dB (λ_ _=>by kernel_rfl))
def wW (a:MV):Option MV:=gA a λcs=>
 cF cs λClient Seq Kind Path Value Version Session Span=>
 bd (
 bT (decide (Client<0)) (
 some [.b true]) (
 bT (decide ((1000:Int)<Client)) (
 some [.b true]) (
 bT (decide (Seq<1)) (
 some [.b true]) (
 bT (decide ((1000000000:Int)<Seq)) (
 some [.b true]) (
 bT (decide (Kind<0)) (
 some [.b true]) (
 bT (decide ((11:Int)<Kind)) (
 some [.b true]) (
 bT (decide ((100:Int)<(Path.length:Int))) (
 some [.b true]) (
 some [.b (decide ((1000:Int)<(Value.length:Int)))])))))))) λvs=>
 gC vs λm8 mF=>
 gB m8 λx=>
 gN mF<|
 bT x (
 some (.b false)) (
 bd (wV (.i .i64 Kind)) λrA=>
 gS rA λx1=>
 bd (
 bd (ku (.s x1) (.i .u8 112)) λcT=>
 gB cT λx2=>
 bT x2 (
 bd (ku (.s x1) (.i .u8 118)) λfL=>
 gB fL λx3=>
 bT x3 (
 some [.b true]) (
 some [.b (decide (Value=([]:List UInt8)))])) (
 bT (decide (Path=([]:List UInt8))) (
 bd (ku (.s x1) (.i .u8 118)) λmW=>
 gB mW λx4=>
 bT x4 (
 some [.b true]) (
 some [.b (decide (Value=([]:List UInt8)))])) (
 some [.b false]))) λnT=>
 gC nT λm9 BV=>
 gB m9 λx5=>
 gN BV<|
 bd (
 bT x5 (
 bd (ku (.s x1) (.i .u8 110)) λsF=>
 gB sF λx6=>
 bT x6 (
 bd (ku (.s x1) (.i .u8 115)) λxy=>
 gB xy λx7=>
 bT x7 (
 bd (ku (.s x1) (.i .u8 116)) λxz=>
 gB xz λx8=>
 bT x8 (
 some [.b true]) (
 some [.b (decide (Span=0))])) (
 bT (decide (Session=0)) (
 bd (ku (.s x1) (.i .u8 116)) λy9=>
 gB y9 λx9=>
 bT x9 (
 some [.b true]) (
 some [.b (decide (Span=0))])) (
 some [.b false]))) (
 bT (decide (Version=0)) (
 bd (ku (.s x1) (.i .u8 115)) λPl=>
 gB Pl λAh=>
 bT Ah (
 bd (ku (.s x1) (.i .u8 116)) λR9=>
 gB R9 λJ6=>
 bT J6 (
 some [.b true]) (
 some [.b (decide (Span=0))])) (
 bT (decide (Session=0)) (
 bd (ku (.s x1) (.i .u8 116)) λBP=>
 gB BP λHD=>
 bT HD (
 some [.b true]) (
 some [.b (decide (Span=0))])) (
 some [.b false]))) (
 some [.b false]))) (
 some [.b false])) λr9=>
 gC r9 λSf BW=>
 gB Sf λzl=>
 gN BW<|
 some (.b zl))
def MO:GT:=bo 64 (je wW) Sg
theorem Ji:SG MO:=J5 Ln [] 92 [(5,⟨[1,3,4],[],[],[(0,[(2,.sc (.k .b))])],[]⟩),(4,⟨[1,3],[],[],[(0,[(4,.sc (.k .b))])],[]⟩),(1,⟨[1],[],[],[(0,[(44,.sc (.k .b))])],[]⟩)] [] [] Tryz.func64 (by kernel_rfl) (ca (λ_=>by kernel_rfl))
def wX (n:MV):Option MV:=gI .u64 n λn1=>
 bd (Loop (λlF=>
 Pm .u64 .i64 lF λn2 k=>
 bT (decide ((0:Int)<n2)) (
 aY (!decide ((256:Int)=0))<|
 some (.inl [.i .u64 (aQ .u64 (aaa n2 256)),.i .i64 (aQ .i64 (k+1))])) (
 some (.inr (2,[.i .i64 k])))) [.i .u64 n1,.i .i64 1]) λp=>
 aY (AI p.1 2)<|
 gC p.2 λm2 fP=>
 gI .i64 m2 λk1=>
 gN fP<|
 some (.i .i64 k1)
def Jj:GT:=bo 154 (je wX) MO
theorem Ha:SG Jj:=J5 Ji [] 11 [] [] [(2,⟨[],[],[(0,.sc (.k (.i .u64))),(3,.sc (.k (.i .i64)))],[(2,[(3,.sc (.k (.i .i64)))])],[]⟩)] Tryz.func154 (by kernel_rfl) (ca (λ_=>by kernel_rfl))
def qt (b n:MV):Option MV:=gL b λb1=>
 gI .u64 n λn1=>
 aY (fZ 1 b1)<|
 bM ([]:List MV) λlen=>
 bM b1 λdi=>
 aY (decide ((len+di) *1<=2^46))<|
 bd (wX (.i .u64 n1)) λrA=>
 gI .i64 rA λx=>
 bM (([]:List MV)++b1) λgM=>
 bM ([.i .u8 (aQ .u8 (aQ .i64 (x-1)))]:List MV) λqu=>
 aY (decide ((gM+qu) *1<=2^46))<|
 bd (Loop (λlF=>
 Af lF λout i=>
 bT (decide ((0:Int)<=i)) (
 bd (Loop (λfP=>
 Pm .u64 .i64 fP λx1 j=>
 bT (decide (j<i)) (
 aY (!decide ((256:Int)=0))<|
 some (.inl [.i .u64 (aQ .u64 (aaa x1 256)),.i .i64 (aQ .i64 (j+1))])) (
 some (.inr (4,[.i .u64 x1])))) [.i .u64 n1,.i .i64 0]) λp1=>
 aY (AI p1.1 4)<|
 gC p1.2 λm4 qv=>
 gI .u64 m4 λx2=>
 gN qv<|
 aY (!decide ((256:Int)=0))<|
 bM out λCp=>
 bM ([.i .u8 (aQ .u8 (IT x2 256))]:List MV) λzR=>
 aY (decide ((Cp+zR) *1<=2^46))<|
 some (.inl [.list (out++([.i .u8 (aQ .u8 (IT x2 256))]:List MV)),.i .i64 (aQ .i64 (i-1))])) (
 some (.inr (2,[.list out])))) [.list ((([]:List MV)++b1)++([.i .u8 (aQ .u8 (aQ .i64 (x-1)))]:List MV)),.i .i64 (aQ .i64 ((aQ .i64 (x-1))-1))]) λp=>
 aY (AI p.1 2)<|
 gC p.2 λm5 qw=>
 gL m5 λpu=>
 gN qw<|
 some (.fresh pu)
def MP:GT:=bo 92 (oc qt) Jj
theorem Jk:SG MP:=fnF Ha 5 [] [] 42 [19,39] [] [] [] [] [] [(9,⟨[1,5,7],[10],[(8,.sc (.k (.i .u64))),(9,.sc (.k (.i .i64)))],[(4,[(8,.sc (.k (.i .u64)))])],[]⟩),(5,⟨[1],[],[(5,.sc (.own 10 5 false)),(7,.sc (.k (.i .i64)))],[(2,[(5,.sc (.own 10 5 false))])],[]⟩)] [] Tryz.func92 (by kernel_rfl) (by kernel_rfl) (dB (λ_ _=>by kernel_rfl))
def Ai (b n:MV):Option MV:=gL b λb1=>
 gI .i64 n λn1=>
 bT (decide (n1<0)) (
 bd (qt (.list b1) (.i .u64 (aQ .u64 ((aQ .u64 (2 *(aQ .u64 (aQ .i64 (0-(aQ .i64 (n1+1)))))))+1)))) λrA=>
 gF rA λxs=>
 some (.fresh xs)) (
 bd (qt (.list b1) (.i .u64 (aQ .u64 (2 *(aQ .u64 n1))))) λcT=>
 gF cT λVK=>
 some (.fresh VK))
def MQ:GT:=bo 134 (oc Ai) MP
theorem Jl:SG MQ:=fnF Jk 5 [] [] 20 [] [] [] [] [] [] [] [] Tryz.func134 (by kernel_rfl) (by kernel_rfl) (dB (λ_ _=>by kernel_rfl))
def s6 (b sA:MV):Option MV:=gL b λb1=>
 gS sA λyf=>
 bd (qt (.list b1) (.i .u64 (aQ .u64 (yf.length:Int)))) λrA=>
 gF rA λxs=>
 bM xs λlen=>
 bM (pL yf) λdi=>
 aY (decide ((len+di) *1<=2^46))<|
 some (.fresh (xs++(pL yf)))
def Jm:GT:=bo 135 (oc s6) MQ
theorem Hb:SG Jm:=fnF Jl 5 [] [] 14 [] [] [] [] [] [] [] [] Tryz.func135 (by kernel_rfl) (by kernel_rfl) (dB (λ_ _=>by kernel_rfl))
def Cq:GT:=rS Jm [] [] 39 [29] [] [] [] [] [] [(4,⟨[4,14,15],[],[(2,.box [.k .l,.k (.i .i64),.k .l,.k .l,.k .l]),(7,.sc (.own 30 57 true)),(8,.sc (.own 33 79 true)),(16,.sc (.k (.i .i64)))],[(2,[(2,.box [.k .l,.k (.i .i64),.k .l,.k .l,.k .l]),(7,.sc (.own 30 57 true)),(8,.sc (.own 33 79 true))])],[30,33]⟩)] [] 28 Tryz.f28
theorem Cr:SG Cq:=nF Hb Tryz.func28 (by kernel_rfl)
def tV (lA:MV):Option MV:=gL lA λFy=>
 bd (Loop (λlF=>
 gC lF λm lk=>
 gI .i64 m λi=>
 gN lk<|
 bM Fy λlen=>
 bT (decide (i<(len:Int))) (
 bd (
 bT (decide (i=30)) (
 some [.b true]) (
 idx Fy i λy=>
 gA y λcs=>
 cF cs λClient Seq Kind Path Value Version Session Span=>
 bT (decide ((200:Int)<(Path.length:Int))) (
 some [.b true]) (
 idx Fy i λy1=>
 gA y1 λGc=>
 cF Gc λql Lm BX BZ sN mG mH B0=>
 some [.b (decide ((1100:Int)<(sN.length:Int)))]))) λvs=>
 gC vs λVJ Jn=>
 gB VJ λx=>
 gN Jn<|
 bT x (
 some (.inr (1,[.b false]))) (
 some (.inl [.i .i64 (aQ .i64 (i+1))]))) (
 some (.inr (2,[])))) [.i .i64 0]) λp=>
 bT (AI p.1 2) (
 gN p.2<|
 some (.b true)) (
 aY (AI p.1 1)<|
 gC p.2 λZj Cs=>
 gB Zj λx1=>
 gN Cs<|
 some (.b x1))
def Fz:GT:=bo 39 (je tV) Cq
theorem D7:SG Fz:=J5 Cr [] 30 [(4,⟨[0,3],[],[],[(0,[(29,.sc (.k .b))])],[]⟩)] [] [(2,⟨[0],[],[(3,.sc (.k (.i .i64)))],[(1,[(2,.sc (.k .b))]),(2,[])],[]⟩)] Tryz.func39 (by kernel_rfl) (ca (λ_=>by kernel_rfl))
def qx (x:MV):Option MV:=gI .u64 x λx1=>
 bd (
 bT (decide ((4294967296:Int)<=x1)) (
 aY (decide ((0:Int)<=32))<|
 some (0,[.i .u64 (No x1 (2^min (sh 32) (AS .u64))),.i .i64 32])) (
 some (0,[.i .u64 x1,.i .i64 0]))) λp=>
 aY (AI p.1 0)<|
 Pm .u64 .i64 p.2 λx2 n=>
 bd (
 bT (decide ((65536:Int)<=x2)) (
 aY (decide ((0:Int)<=16))<|
 some (0,[.i .u64 (No x2 (2^min (sh 16) (AS .u64))),.i .i64 (aQ .i64 (n+16))])) (
 some (0,[.i .u64 x2,.i .i64 n]))) λp1=>
 aY (AI p1.1 0)<|
 Pm .u64 .i64 p1.2 λx3 n1=>
 bd (
 bT (decide ((256:Int)<=x3)) (
 aY (decide ((0:Int)<=8))<|
 some (0,[.i .u64 (No x3 (2^min (sh 8) (AS .u64))),.i .i64 (aQ .i64 (n1+8))])) (
 some (0,[.i .u64 x3,.i .i64 n1]))) λp2=>
 aY (AI p2.1 0)<|
 Pm .u64 .i64 p2.2 λx4 n2=>
 aY (decide ((0:Int)<=(aQ .u8 x4)/\(aQ .u8 x4)<(((([0,1,2,2,3,3,3,3,4,4,4,4,4,4,4,4,5,5,5,5,5,5,5,5,5,5,5,5,5,5,5,5,6,6,6,6,6,6,6,6,6,6,6,6,6,6,6,6,6,6,6,6,6,6,6,6,6,6,6,6,6,6,6,6]:List UInt8)++([7,7,7,7,7,7,7,7,7,7,7,7,7,7,7,7,7,7,7,7,7,7,7,7,7,7,7,7,7,7,7,7,7,7,7,7,7,7,7,7,7,7,7,7,7,7,7,7,7,7,7,7,7,7,7,7,7,7,7,7,7,7,7,7]:List UInt8))++(([8,8,8,8,8,8,8,8,8,8,8,8,8,8,8,8,8,8,8,8,8,8,8,8,8,8,8,8,8,8,8,8,8,8,8,8,8,8,8,8,8,8,8,8,8,8,8,8,8,8,8,8,8,8,8,8,8,8,8,8,8,8,8,8]:List UInt8)++([8,8,8,8,8,8,8,8,8,8,8,8,8,8,8,8,8,8,8,8,8,8,8,8,8,8,8,8,8,8,8,8,8,8,8,8,8,8,8,8,8,8,8,8,8,8,8,8,8,8,8,8,8,8,8,8,8,8,8,8,8,8,8,8]:List UInt8))).length:Int)))<|
 some (.i .i64 (aQ .i64 (n2+(aQ .i64 ((((([0,1,2,2,3,3,3,3,4,4,4,4,4,4,4,4,5,5,5,5,5,5,5,5,5,5,5,5,5,5,5,5,6,6,6,6,6,6,6,6,6,6,6,6,6,6,6,6,6,6,6,6,6,6,6,6,6,6,6,6,6,6,6,6]:List UInt8)++([7,7,7,7,7,7,7,7,7,7,7,7,7,7,7,7,7,7,7,7,7,7,7,7,7,7,7,7,7,7,7,7,7,7,7,7,7,7,7,7,7,7,7,7,7,7,7,7,7,7,7,7,7,7,7,7,7,7,7,7,7,7,7,7]:List UInt8))++(([8,8,8,8,8,8,8,8,8,8,8,8,8,8,8,8,8,8,8,8,8,8,8,8,8,8,8,8,8,8,8,8,8,8,8,8,8,8,8,8,8,8,8,8,8,8,8,8,8,8,8,8,8,8,8,8,8,8,8,8,8,8,8,8]:List UInt8)++([8,8,8,8,8,8,8,8,8,8,8,8,8,8,8,8,8,8,8,8,8,8,8,8,8,8,8,8,8,8,8,8,8,8,8,8,8,8,8,8,8,8,8,8,8,8,8,8,8,8,8,8,8,8,8,8,8,8,8,8,8,8,8,8]:List UInt8))).getD (sh (aQ .u8 x4)) 0).toNat:Int)))))
def Ct:GT:=bo 203 (je qx) Fz
theorem Cu:SG Ct:=OC D7 [] 25 [] [(8,⟨[],[],[],[(0,[(0,.sc (.k (.i .u64))),(2,.sc (.k (.i .i64)))])],[]⟩),(5,⟨[],[],[],[(0,[(0,.sc (.k (.i .u64))),(2,.sc (.k (.i .i64)))])],[]⟩),(2,⟨[],[],[],[(0,[(0,.sc (.k (.i .u64))),(2,.sc (.k (.i .i64)))])],[]⟩)] [] Tryz.func203 (by kernel_rfl) (ca (λ_=>by kernel_rfl))
def qy (n:MV):Option MV:=gI .u64 n λn1=>
 bd (qx (.i .u64 n1)) λrA=>
 gI .i64 rA λx=>
 aY (!decide ((8:Int)=0))<|
 some (.i .i64 (aQ .i64 (1+(aQ .i64 (aaa (aQ .i64 (x+7)) 8)))))
def Cv:GT:=bo 147 (je qy) Ct
theorem Cw:SG Cv:=OC Cu [] 8 [] [] [] Tryz.func147 (by kernel_rfl) (ca (λ_=>by kernel_rfl))
def iZ (sA:MV):Option MV:=gL sA λyf=>
 bM yf λlen=>
 bM yf λdi=>
 aY (decide ((len:Int)=(yf.length:Int)/\(di:Int)=(yf.length:Int)))<|
 some (.clip yf)
def qV:GT:=bo 148 (je iZ) Cv
theorem uy:SG qV:=OC Cw [] 9 [] [] [] Tryz.func148 (by kernel_rfl) (ca (λ_=>by kernel_rfl))
def lQ (b n:MV):Option MV:=gL b λb1=>
 gI .u64 n λn1=>
 bd (qy (.i .u64 n1)) λrA=>
 gI .i64 rA λx=>
 bd (iZ (.list b1)) λcT=>
 ZO cT λxs=>
 aY (fZ 1 xs)<|
 bM xs λlen=>
 bM ([.i .u8 (aQ .u8 (aQ .i64 (x-1)))]:List MV) λdi=>
 aY (decide (0<di/\(len+di) *1<=2^46))<|
 bd (lm 3000 (λlF=>
 Af lF λout i=>
 bT (decide ((0:Int)<=i)) (
 aY (decide ((0:Int)<=(aQ .i64 (8 *i))))<|
 bM out λgM=>
 bM ([.i .u8 (aQ .u8 (No n1 (2^min (sh (aQ .i64 (8 *i))) (AS .u64))))]:List MV) λqu=>
 aY (decide ((gM+qu) *1<=2^46))<|
 some (.inl [.list (out++([.i .u8 (aQ .u8 (No n1 (2^min (sh (aQ .i64 (8 *i))) (AS .u64))))]:List MV)),.i .i64 (aQ .i64 (i-1))])) (
 some (.inr (2,[.list out])))) [.list (xs++([.i .u8 (aQ .u8 (aQ .i64 (x-1)))]:List MV)),.i .i64 (aQ .i64 ((aQ .i64 (x-1))-1))]) λp=>
 aY (AI p.1 2)<|
 gC p.2 λm2 fP=>
 gL m2 λpu=>
 gN fP<|
 some (.fresh pu)
def FA:GT:=bo 86 (oc lQ) qV
theorem D8:SG FA:=VI uy 5 [] [] 32 [15,29] [] [] [] [] [] [(4,⟨[1],[],[(6,.sc (.own 16 5 false)),(7,.sc (.k (.i .i64)))],[(2,[(6,.sc (.own 16 5 false))])],[]⟩)] [] Tryz.func86 (by kernel_rfl) (by kernel_rfl) (dB (λ_ _=>by kernel_rfl))
def mQ (b sA:MV):Option MV:=gL b λb1=>
 gS sA λyf=>
 bd (lQ (.list b1) (.i .u64 (aQ .u64 (yf.length:Int)))) λrA=>
 gF rA λxs=>
 bM xs λlen=>
 bM (pL yf) λdi=>
 aY (decide ((len+di) *1<=2^46))<|
 some (.fresh (xs++(pL yf)))
def Cx:GT:=bo 149 (oc mQ) FA
theorem Cy:SG Cx:=VI D8 5 [] [] 12 [] [] [] [] [] [] [] [] Tryz.func149 (by kernel_rfl) (by kernel_rfl) (dB (λ_ _=>by kernel_rfl))
def tW (b n:MV):Option MV:=gL b λb1=>
 gI .i64 n λn1=>
 aY (decide ((0:Int)<=1))<|
 aY (decide ((0:Int)<=63))<|
 bd (lQ (.list b1) (.i .u64 (bn .u64 (aQ .u64 ((aQ .u64 n1) *2^min (sh 1) (AS .u64))) (aQ .u64 (No n1 (2^min (sh 63) (AS .i64))))))) λrA=>
 gF rA λxs=>
 some (.fresh xs)
def FB:GT:=bo 204 (oc tW) Cx
theorem D9:SG FB:=VI Cy 5 [] [] 14 [] [] [] [] [] [] [] [] Tryz.func204 (by kernel_rfl) (by kernel_rfl) (dB (λ_ _=>by kernel_rfl))
def qz (b lA:MV):Option MV:=gL b λb1=>
 gL lA λFy=>
 bM Fy λlen=>
 bd (lm 3000 (λlF=>
 Af lF λb2 x=>
 bT (decide (x<(len:Int))) (
 idx Fy x λy=>
 gI .i64 y λx1=>
 bd (tW (.list b2) (.i .i64 x1)) λrA=>
 gF rA λxs=>
 some (.inl [.list xs,.i .i64 (aQ .i64 (x+1))])) (
 some (.inr (2,[.list b2])))) [.list b1,.i .i64 0]) λp=>
 aY (AI p.1 2)<|
 gC p.2 λm2 fP=>
 gL m2 λb3=>
 gN fP<|
 some (.list b3)
def Cz:GT:=bo 150 (oc qz) FB
theorem CA:SG Cz:=Ll D9 [] [] 18 [15] [] [] [] [] [] [(2,⟨[7,8],[],[(0,.sc (.k .l)),(9,.sc (.k (.i .i64)))],[(2,[(0,.sc (.k .l))])],[]⟩)] [] Tryz.func150 (by kernel_rfl) (dB (λ_ _=>by kernel_rfl))
def ua (b o:MV):Option MV:=gL b λb1=>
 gA o λcs=>
 cF cs λClient Seq Kind Path Value Version Session Span=>
 bd (qz (.list b1) (.list ([.i .i64 Client,.i .i64 Seq,.i .i64 Kind,.i .i64 Version,.i .i64 Session,.i .i64 Span]:List MV))) λrA=>
 gL rA λx=>
 bd (mQ (.list x) (.s Path)) λcT=>
 gF cT λxs=>
 bd (mQ (.list xs) (.s Value)) λfL=>
 gF fL λVK=>
 some (.fresh VK)
def FC:GT:=bo 87 (oc ua) Cz
theorem Ea:SG FC:=VI CA 5 [] [] 26 [18] [] [] [(1,[0,1,2,3,4,5,6,7,8,9,10,11,12,15,16,18,19,13,14,17,20,21])] [] [] [] [] Tryz.func87 (by kernel_rfl) (by kernel_rfl) (dB (λ_ _=>by kernel_rfl))
def lG (lA:MV):Option MV:=gL lA λFy=>
 bM Fy λlen=>
 bT (decide ((10:Int)<(len:Int))) (
 some (.cG [.s ([]:List UInt8),.i .i64 5])) (
 bM Fy λdi=>
 bd (lQ (.list ([]:List MV)) (.i .u64 (aQ .u64 (di:Int)))) λrA=>
 gF rA λxs=>
 bM Fy λgM=>
 bd (lm 3000 (λlF=>
 Af lF λb x=>
 bT (decide (x<(gM:Int))) (
 idx Fy x λy=>
 gA y λcs=>
 cF cs λClient Seq Kind Path Value Version Session Span=>
 bd (pg (.agg (bj Client Seq Kind Path Value Version Session Span))) λcT=>
 gB cT λx1=>
 bT (!x1) (
 some (.inr (1,[.s ([]:List UInt8),.i .i64 1]))) (
 bd (ua (.list b) (.agg (bj Client Seq Kind Path Value Version Session Span))) λfL=>
 gF fL λVK=>
 some (.inl [.list VK,.i .i64 (aQ .i64 (x+1))]))) (
 some (.inr (2,[.list b])))) [.list xs,.i .i64 0]) λp=>
 bT (AI p.1 2) (
 gC p.2 λSf sM=>
 gL Sf λb1=>
 gN sM<|
 zu b1 λbs=>
 some (.cG [.s bs,.i .i64 0])) (
 aY (AI p.1 1)<|
 gC p.2 λm11 Sh=>
 gS m11 λx2=>
 gC Sh λm12 Jo=>
 gI .i64 m12 λx3=>
 gN Jo<|
 some (.cG [.s x2,.i .i64 x3])))
def wY:GT:=bo 41 (je lG) FC
theorem yg:SG wY:=OC Ea [] 29 [] [] [(5,⟨[14,15],[],[(4,.sc (.own 13 5 true)),(16,.sc (.k (.i .i64)))],[(1,[(2,.sc (.k .s)),(3,.sc (.k (.i .i64)))]),(2,[(4,.sc (.own 13 5 true))])],[13,25]⟩)] Tryz.func41 (by kernel_rfl) (ca (λ_=>by kernel_rfl))
def kv (b:MV):Option MV:=gL b λb1=>
 bM b1 λlen=>
 bT (decide ((len:Int)=0)) (
 some (.cG [.i .u64 0,.list ([]:List MV),.i .i64 2])) (
 idx b1 0 λy=>
 gI .u8 y λx=>
 aY (fZ 1 b1)<|
 bM b1 λdi=>
 aY (decide ((0:Int)<=1/\(1:Int)<=(di:Int)/\(di:Int)<=(di:Int)))<|
 bd (
 bT (decide ((8:Int)<(aQ .i64 x))) (
 some [.b true]) (
 bT (decide ((0:Int)<(aQ .i64 x))) (
 bM (By (sh 1) (BY (sh (di:Int)) b1)) λgM=>
 bT (decide ((0:Int)<(gM:Int))) (
 idx (By (sh 1) (BY (sh (di:Int)) b1)) 0 λy1=>
 gI .u8 y1 λx1=>
 some [.b (decide (x1=0))]) (
 some [.b false])) (
 some [.b false]))) λvs=>
 gC vs λm lF=>
 gB m λx2=>
 gN lF<|
 bT x2 (
 some (.cG [.i .u64 0,.list ([]:List MV),.i .i64 3])) (
 bM (By (sh 1) (BY (sh (di:Int)) b1)) λqu=>
 bT (decide ((qu:Int)<(aQ .i64 x))) (
 some (.cG [.i .u64 0,.list ([]:List MV),.i .i64 2])) (
 bM (By (sh 1) (BY (sh (di:Int)) b1)) λCp=>
 aY (decide ((0:Int)<=0/\(0:Int)<=(aQ .i64 x)/\(aQ .i64 x)<=(Cp:Int)))<|
 bM (By (sh 0) (BY (sh (aQ .i64 x)) (By (sh 1) (BY (sh (di:Int)) b1)))) λzR=>
 bd (lm 3000 (λlk=>
 Pm .u64 .i64 lk λn x3=>
 bT (decide (x3<(zR:Int))) (
 idx (By (sh 0) (BY (sh (aQ .i64 x)) (By (sh 1) (BY (sh (di:Int)) b1)))) x3 λy2=>
 gI .u8 y2 λx4=>
 aY (decide ((0:Int)<=8))<|
 some (.inl [.i .u64 (pG .u64 (aQ .u64 (n *2^min (sh 8) (AS .u64))) (aQ .u64 x4)),.i .i64 (aQ .i64 (x3+1))])) (
 some (.inr (3,[.i .u64 n])))) [.i .u64 0,.i .i64 0]) λp=>
 aY (AI p.1 3)<|
 gC p.2 λm3 ll=>
 gI .u64 m3 λn1=>
 gN ll<|
 aY (fZ 1 (By (sh 1) (BY (sh (di:Int)) b1)))<|
 bM (By (sh 1) (BY (sh (di:Int)) b1)) λCB=>
 aY (decide ((0:Int)<=(aQ .i64 x)/\(aQ .i64 x)<=(CB:Int)/\(CB:Int)<=(CB:Int)))<|
 some (.cG [.i .u64 n1,.list (By (sh (aQ .i64 x)) (BY (sh (CB:Int)) (By (sh 1) (BY (sh (di:Int)) b1)))),.i .i64 0]))))
def CC:GT:=bo 88 (je kv) wY
theorem CD:SG CC:=Ll yg [] [] 60 [] [] [] [(3,[0,1,2,3,4,5,6,7]),(14,[0,1,2,3,4,5,6])] [(4,⟨[5,6],[],[],[(0,[(19,.sc (.k .b))])],[]⟩)] [] [(10,⟨[5,6,44,45],[],[(7,.sc (.k (.i .u64))),(46,.sc (.k (.i .i64)))],[(3,[(7,.sc (.k (.i .u64)))])],[]⟩)] [] Tryz.func88 (by kernel_rfl) (ca (λ_=>by kernel_rfl))
def kH (b:MV):Option MV:=gL b λb1=>
 bd (kv (.list b1)) λrA=>
 gT rA λvs=>
 Jd .u64 .i64 vs λx x1 x2=>
 aY (decide ((0:Int)<=1))<|
 some (.cG [.i .i64 (bn .i64 (aQ .i64 (No x (2^min (sh 1) (AS .u64)))) (aQ .i64 (0-(aQ .i64 (cH .u64 x 1))))),.list x1,.i .i64 x2])
def uT:GT:=bo 205 (je kH) CC
theorem wZ:SG uT:=OC CD [] 24 [] [] [] Tryz.func205 (by kernel_rfl) (ca (λ_=>by kernel_rfl))
def jL (b most:MV):Option MV:=gL b λb1=>
 gI .i64 most λSi=>
 bd (kv (.list b1)) λrA=>
 gT rA λvs=>
 Jd .u64 .i64 vs λx x1 x2=>
 bT (!decide (x2=0)) (
 some (.cG [.s ([]:List UInt8),.list ([]:List MV),.i .i64 x2])) (
 bT (decide ((aQ .u64 (imax Si 0))<x)) (
 some (.cG [.s ([]:List UInt8),.list ([]:List MV),.i .i64 5])) (
 bM x1 λlen=>
 bT (decide ((aQ .u64 (len:Int))<x)) (
 some (.cG [.s ([]:List UInt8),.list ([]:List MV),.i .i64 2])) (
 bM x1 λdi=>
 aY (decide ((0:Int)<=0/\(0:Int)<=x/\x<=(di:Int)))<|
 zu (By (sh 0) (BY (sh x) x1)) λbs=>
 aY (fZ 1 x1)<|
 bM x1 λgM=>
 aY (decide ((0:Int)<=x/\x<=(gM:Int)/\(gM:Int)<=(gM:Int)))<|
 some (.cG [.s bs,.list (By (sh x) (BY (sh (gM:Int)) x1)),.i .i64 0]))))
def bA:GT:=bo 206 (oc jL) uT
theorem mR:SG bA:=Ll wZ [] [] 39 [] [] [] [(8,[0,1,2,3,4,5,6,7,8,9])] [] [] [] [] Tryz.func206 (by kernel_rfl) (dB (λ_ _=>by kernel_rfl))
def takeN:Pk:=⟨35,152,54,229,227,291,231,233,3,9,4⟩
def qW:U8:=⟨205,206,35⟩
def Sj:Ctx:=J3 bA [] 47 [] [36,42,46] [] [] [] [] [] []
theorem Zk:sv Tryz.prog Sj bA qW takeN 89 151 152 Tryz.f89 (λk=>k) (dM Tryz.f89 dN) where
 hT:=eP
 key:=λ_=>rfl
 snd:=λf ms r h=>cq.ez (c:=cx) (c':=Sj) ⟨rfl,rfl,rfl,rfl,rfl,rfl,rfl,rfl,rfl⟩ (mR.all f ms r h)
 gv:=⟨by kernel_rfl,by kernel_rfl,by kernel_rfl⟩
 TB:=⟨dD 35,by kernel_rfl,by kernel_rfl,by kernel_rfl,by kernel_rfl⟩
 tyR:=⟨dD 229,by kernel_rfl,by kernel_rfl,by kernel_rfl,by kernel_rfl⟩
 tyY:=⟨dD 152,by kernel_rfl,by kernel_rfl,by kernel_rfl⟩
 tye:=⟨dD 54,by kernel_rfl,by kernel_rfl,by kernel_rfl⟩
 tyi:=⟨dD 3,by kernel_rfl,by kernel_rfl,by kernel_rfl⟩
 tyS:=⟨dD 9,by kernel_rfl,by kernel_rfl,by kernel_rfl⟩
 tyI:=⟨dD 231,by kernel_rfl,by kernel_rfl,by kernel_rfl⟩
 Vb:=by kernel_rfl
 pos:=Tryz.func89
 name:=by kernel_rfl
 tmps:=by kernel_rfl
 res:=by kernel_rfl
 body:=by kernel_rfl
 ops:=by constructor<;>exact ⟨by kernel_rfl,by kernel_rfl,by kernel_rfl⟩
 ints:=⟨Tryz.f151,λk=>k,dM Tryz.f151 dN,⟨Tryz.func151,by kernel_rfl,by kernel_rfl,by kernel_rfl,by kernel_rfl,by constructor<;>exact ⟨by kernel_rfl,by kernel_rfl,by kernel_rfl⟩⟩⟩
 text:=⟨Tryz.f152,λk=>k,dM Tryz.f152 dN,⟨Tryz.func152,by kernel_rfl,by kernel_rfl,by kernel_rfl,by kernel_rfl,by constructor<;>exact ⟨by kernel_rfl,by kernel_rfl,by kernel_rfl⟩⟩⟩
 WW:=jI
 d7:=by kernel_rfl
 d10:=by kernel_rfl
 s35:=by kernel_rfl
 s47:=by kernel_rfl
 s51:=by kernel_rfl
 m38:=by kernel_rfl
 m53:=by kernel_rfl
 gvF:=by kernel_rfl
 tyL:=⟨dD 291,by kernel_rfl,by kernel_rfl⟩
 blR:=λ_ _ _=>by kernel_rfl
 blO:=by kernel_rfl
def vz (a:MV):Option MV:=MD bA qW [a]
def CE:GT:=bo 89 (je vz) bA
theorem CF:SG CE:=mR.add λf ms r hk hr=>by have hk:f=89:=hk;subst hk;exact cq.ez (c:=Sj) (c':=cx) ⟨rfl,rfl,rfl,rfl,rfl,rfl,rfl,rfl,rfl⟩ (Vj Zk (ca (B:=MD bA qW) (λ_=>rfl) hr))
def lH (sA:MV):Option MV:=gS sA λyf=>
 bd (kv (.list (pL yf))) λrA=>
 gT rA λvs=>
 Jd .u64 .i64 vs λx x1 x2=>
 bd (
 bT (!decide (x2=0)) (
 some [.b true]) (
 some [.b (decide ((10:Int)<x))])) λnT=>
 gC nT λm3 fP=>
 gB m3 λx3=>
 gN fP<|
 bT x3 (
 some (.cG [.list ([]:List MV),.i .i64 3])) (
 aY (decide ((0:Int)<=x/\x<=x/\x *80<=2^46))<|
 bM (aab (sh x) (.agg (bj 0 0 0 ([]:List UInt8) ([]:List UInt8) 0 0 0))) λlen=>
 bd (lm 3000 (λll=>
 Y2 ll λb out x4=>
 bT (decide (x4<(len:Int))) (
 bd (vz (.list b)) λcT=>
 gT cT λr9=>
 gC r9 λm7 mF=>
 gA m7 λcs=>
 cF cs λClient Seq Kind Path Value Version Session Span=>
 Af mF λx5 x6=>
 idx out x4 λy=>
 gA y λGc=>
 cF Gc λql Lm BX BZ sN mG mH B0=>
 bT (!decide (x6=0)) (
 some (.inr (1,[.list ([]:List MV),.i .i64 3]))) (
 some (.inl [.list x5,.list (out.set (sh x4) (.agg (bj Client Seq Kind Path Value Version Session Span))),.i .i64 (aQ .i64 (x4+1))]))) (
 some (.inr (2,[.list b,.list out])))) [.list x1,.list (aab (sh x) (.agg (bj 0 0 0 ([]:List UInt8) ([]:List UInt8) 0 0 0))),.i .i64 0]) λp=>
 bT (AI p.1 2) (
 gC p.2 λm26 Sk=>
 gL m26 λb1=>
 gC Sk λm27 ac8=>
 gL m27 λpu=>
 gN ac8<|
 bM b1 λdi=>
 bT (decide ((0:Int)<(di:Int))) (
 some (.cG [.list ([]:List MV),.i .i64 3])) (
 some (.cG [.list pu,.i .i64 0]))) (
 aY (AI p.1 1)<|
 oLI .i64 p.2 λx7 x8=>
 some (.cG [.list x7,.i .i64 x8])))
def w9:GT:=bo 42 (je lH) CE
theorem yh:SG w9:=OC CF [] 45 [(2,⟨[4,5,6],[],[],[(0,[(21,.sc (.k .b))])],[]⟩)] [] [(6,⟨[25],[],[(5,.sc (.k .l)),(7,.sc (.own 23 35 false)),(26,.sc (.k (.i .i64)))],[(1,[(2,.sc (.k .l)),(3,.sc (.k (.i .i64)))]),(2,[(5,.sc (.k .l)),(7,.sc (.own 23 35 false))])],[]⟩)] Tryz.func42 (by kernel_rfl) (ca (λ_=>by kernel_rfl))
def s7:GT:=rP w9 [] 30 [] [] [] 46 Tryz.f46
theorem zS:SG s7:=bY yh Tryz.func46 (by kernel_rfl)
def pv:Option MV:=rE (J3 s7 [] 47 [10] [] [] [] [(4,⟨[2,3,4,5,7],[],[],[(0,[(0,.sc (.k .b))])],[]⟩)] [] [] []) [] none Tryz.f40 []
def FD:GT:=bo 40 (Oj pv) s7
theorem Eb:SG FD:=J4 zS [] [] 47 [10] [] [] [] [(4,⟨[2,3,4,5,7],[],[],[(0,[(0,.sc (.k .b))])],[]⟩)] [] [] [] Tryz.func40 (by kernel_rfl) (Ae rfl)
def xa (a b:MV):Option MV:=gL a λa1=>
 gL b λb1=>
 bM a1 λlen=>
 bM b1 λdi=>
 bT (!decide ((len:Int)=(di:Int))) (
 some (.b false)) (
 bd (Loop (λlF=>
 gC lF λm lk=>
 gI .i64 m λi=>
 gN lk<|
 bM a1 λgM=>
 bT (decide (i<(gM:Int))) (
 idx a1 i λy=>
 gA y λcs=>
 cF cs λClient Seq Kind Path Value Version Session Span=>
 idx b1 i λy1=>
 gA y1 λGc=>
 cF Gc λql Lm BX BZ sN mG mH B0=>
 bT (!((decide (Client=ql))&&((decide (Seq=Lm))&&((decide (Kind=BX))&&((decide (Path=BZ))&&((decide (Value=sN))&&((decide (Version=mG))&&((decide (Session=mH))&&(decide (Span=B0)))))))))) (
 some (.inr (1,[.b false]))) (
 some (.inl [.i .i64 (aQ .i64 (i+1))]))) (
 some (.inr (2,[])))) [.i .i64 0]) λp=>
 bT (AI p.1 2) (
 gN p.2<|
 some (.b true)) (
 aY (AI p.1 1)<|
 gC p.2 λVJ Jn=>
 gB VJ λx=>
 gN Jn<|
 some (.b x)))
def Jp:GT:=bo 43 (oc xa) FD
theorem Hc:SG Jp:=J4 Eb [] [] 26 [] [] [] [(6,[0,1,2,3,4,5,6,7,8])] [] [] [(4,⟨[0,1],[],[(5,.sc (.k (.i .i64)))],[(1,[(4,.sc (.k .b))]),(2,[])],[]⟩)] [] Tryz.func43 (by kernel_rfl) (dB (λ_ _=>by kernel_rfl))
def xb (lA:MV):Option MV:=gL lA λFy=>
 bd (Loop (λlF=>
 Af lF λout i=>
 bM Fy λlen=>
 bT (decide (i<(len:Int))) (
 idx Fy i λy=>
 gA y λcs=>
 cF cs λClient Seq Kind Path Value Version Session Span=>
 bM out λdi=>
 bM ([.agg (bj Client Seq Kind Path Value Version Session Span)]:List MV) λgM=>
 aY (decide ((di+gM) *80<=2^46))<|
 some (.inl [.list (out++([.agg (bj Client Seq Kind Path Value Version Session Span)]:List MV)),.i .i64 (aQ .i64 (i+1))])) (
 some (.inr (2,[.list out])))) [.list ([]:List MV),.i .i64 0]) λp=>
 aY (AI p.1 2)<|
 gC p.2 λSf sM=>
 gL Sf λpu=>
 gN sM<|
 some (.list pu)
def MR:GT:=bo 44 (je xb) Jp
theorem Jq:SG MR:=J4 Hc [] [] 38 [35] [] [] [] [] [] [(3,⟨[0],[],[(3,.sc (.own 6 65 true)),(4,.sc (.k (.i .i64)))],[(2,[(3,.sc (.own 6 65 true))])],[6]⟩)] [] Tryz.func44 (by kernel_rfl) (ca (λ_=>by kernel_rfl))
def Aj (b o:MV):Option MV:=gL b λb1=>
 gA o λcs=>
 cF cs λClient Seq Kind Path Value Version Session Span=>
 bd (Loop (λmF=>
 Af mF λb2 i=>
 bM ([.i .i64 Client,.i .i64 Seq,.i .i64 Kind,.i .i64 Version,.i .i64 Session,.i .i64 Span]:List MV) λlen=>
 bT (decide (i<(len:Int))) (
 idx ([.i .i64 Client,.i .i64 Seq,.i .i64 Kind,.i .i64 Version,.i .i64 Session,.i .i64 Span]:List MV) i λy=>
 gI .i64 y λx=>
 bd (Ai (.list b2) (.i .i64 x)) λrA=>
 gF rA λxs=>
 some (.inl [.list xs,.i .i64 (aQ .i64 (i+1))])) (
 some (.inr (2,[.list b2])))) [.list b1,.i .i64 0]) λp=>
 aY (AI p.1 2)<|
 gC p.2 λSf sM=>
 gL Sf λb3=>
 gN sM<|
 bd (s6 (.list b3) (.s Path)) λcT=>
 gF cT λVK=>
 bd (s6 (.list VK) (.s Value)) λfL=>
 gF fL λxs2=>
 some (.fresh xs2)
def MU:GT:=bo 93 (oc Aj) MR
theorem Jr:SG MU:=fnF Jq 5 [] [] 40 [31,35] [] [] [] [] [] [(3,⟨[3,5],[19],[(0,.sc (.k .l)),(6,.sc (.k (.i .i64)))],[(2,[(0,.sc (.k .l))])],[]⟩)] [] Tryz.func93 (by kernel_rfl) (by kernel_rfl) (dB (λ_ _=>by kernel_rfl))
def qA (lA:MV):Option MV:=gL lA λFy=>
 bM Fy λlen=>
 bT (decide ((10:Int)<(len:Int))) (
 some (.cG [.s ([]:List UInt8),.i .i64 5])) (
 bM Fy λdi=>
 bd (qt (.list ([]:List MV)) (.i .u64 (aQ .u64 (di:Int)))) λrA=>
 gF rA λxs=>
 bd (Loop (λlF=>
 Af lF λb i=>
 bM Fy λgM=>
 bT (decide (i<(gM:Int))) (
 idx Fy i λy=>
 gA y λcs=>
 cF cs λClient Seq Kind Path Value Version Session Span=>
 bd (wW (.agg (bj Client Seq Kind Path Value Version Session Span))) λcT=>
 gB cT λx=>
 bT (!x) (
 some (.inr (1,[.s ([]:List UInt8),.i .i64 1]))) (
 idx Fy i λy1=>
 gA y1 λGc=>
 cF Gc λql Lm BX BZ sN mG mH B0=>
 bd (Aj (.list b) (.agg (bj ql Lm BX BZ sN mG mH B0))) λfL=>
 gF fL λVK=>
 some (.inl [.list VK,.i .i64 (aQ .i64 (i+1))]))) (
 some (.inr (2,[.list b])))) [.list xs,.i .i64 0]) λp=>
 bT (AI p.1 2) (
 gC p.2 λZj Cs=>
 gL Zj λb1=>
 gN Cs<|
 zu b1 λbs=>
 some (.cG [.s bs,.i .i64 0])) (
 aY (AI p.1 1)<|
 gC p.2 λm19 Js=>
 gS m19 λx1=>
 gC Js λm20 Sl=>
 gI .i64 m20 λx2=>
 gN Sl<|
 some (.cG [.s x1,.i .i64 x2])))
def CG:GT:=bo 47 (je qA) MU
theorem CH:SG CG:=J5 Jr [] 33 [] [] [(5,⟨[0],[],[(4,.sc (.own 12 5 true)),(5,.sc (.k (.i .i64)))],[(1,[(2,.sc (.k .s)),(3,.sc (.k (.i .i64)))]),(2,[(4,.sc (.own 12 5 true))])],[12,30]⟩)] Tryz.func47 (by kernel_rfl) (ca (λ_=>by kernel_rfl))
def pw (b:MV):Option MV:=gL b λb1=>
 bM b1 λlen=>
 bT (decide ((len:Int)=0)) (
 some (.cG [.i .u64 0,.list ([]:List MV),.i .i64 2])) (
 idx b1 0 λy=>
 gI .u8 y λx=>
 bd (
 bT (decide ((8:Int)<(aQ .i64 x))) (
 some [.b true]) (
 bT (decide ((0:Int)<(aQ .i64 x))) (
 bM b1 λdi=>
 bT (decide ((1:Int)<(di:Int))) (
 idx b1 1 λy1=>
 gI .u8 y1 λx1=>
 some [.b (decide (x1=0))]) (
 some [.b false])) (
 some [.b false]))) λvs=>
 gC vs λm lF=>
 gB m λx2=>
 gN lF<|
 bT x2 (
 some (.cG [.i .u64 0,.list ([]:List MV),.i .i64 3])) (
 bM b1 λgM=>
 bT (decide ((gM:Int)<(aQ .i64 (1+(aQ .i64 x))))) (
 some (.cG [.i .u64 0,.list ([]:List MV),.i .i64 2])) (
 bd (Loop (λlk=>
 Pm .u64 .i64 lk λn i=>
 bT (decide (i<=(aQ .i64 x))) (
 idx b1 i λy2=>
 gI .u8 y2 λx3=>
 some (.inl [.i .u64 (aQ .u64 ((aQ .u64 (256 *n))+(aQ .u64 x3))),.i .i64 (aQ .i64 (i+1))])) (
 some (.inr (2,[.i .u64 n])))) [.i .u64 0,.i .i64 1]) λp=>
 aY (AI p.1 2)<|
 gC p.2 λm3 ll=>
 gI .u64 m3 λn1=>
 gN ll<|
 aY (fZ 1 b1)<|
 bM b1 λqu=>
 aY (decide ((0:Int)<=(aQ .i64 (1+(aQ .i64 x)))/\(aQ .i64 (1+(aQ .i64 x)))<=(qu:Int)/\(qu:Int)<=(qu:Int)))<|
 some (.cG [.i .u64 n1,.list (By (sh (aQ .i64 (1+(aQ .i64 x)))) (BY (sh (qu:Int)) b1)),.i .i64 0]))))
def Jt:GT:=bo 94 (je pw) CG
theorem Hd:SG Jt:=J4 CH [] [] 55 [] [] [] [(13,[0,1,2,3,4,5,6,7])] [(4,⟨[0,5],[],[],[(0,[(31,.sc (.k .b))])],[]⟩)] [] [(10,⟨[0,5],[],[(6,.sc (.k (.i .u64))),(7,.sc (.k (.i .i64)))],[(2,[(6,.sc (.k (.i .u64)))])],[]⟩)] [] Tryz.func94 (by kernel_rfl) (ca (λ_=>by kernel_rfl))
def nO (b:MV):Option MV:=gL b λb1=>
 bd (pw (.list b1)) λrA=>
 gT rA λvs=>
 Jd .u64 .i64 vs λx x1 x2=>
 bT (!decide (x2=0)) (
 some (.cG [.i .i64 0,.list ([]:List MV),.i .i64 x2])) (
 aY (!decide ((2:Int)=0))<|
 bT (decide ((IT x 2)=1)) (
 aY (!decide ((2:Int)=0))<|
 some (.cG [.i .i64 (aQ .i64 ((aQ .i64 (0-(aQ .i64 (aQ .u64 (aaa x 2)))))-1)),.list x1,.i .i64 0])) (
 aY (!decide ((2:Int)=0))<|
 some (.cG [.i .i64 (aQ .i64 (aQ .u64 (aaa x 2))),.list x1,.i .i64 0])))
def zm:GT:=bo 207 (je nO) Jt
theorem zT:SG zm:=J5 Hd [] 30 [] [] [] Tryz.func207 (by kernel_rfl) (ca (λ_=>by kernel_rfl))
def xc (b many:MV):Option MV:=gL b λb1=>
 gI .i64 many λmany1=>
 bd (Loop (λlF=>
 Y2 lF λb2 out i=>
 bT (decide (i<many1)) (
 bd (nO (.list b2)) λrA=>
 gT rA λvs=>
 agy vs λx x1 x2=>
 bT (!decide (x2=0)) (
 some (.inr (1,[.list ([]:List MV),.list ([]:List MV),.i .i64 x2]))) (
 bM out λlen=>
 bM ([.i .i64 x]:List MV) λdi=>
 aY (decide ((len+di) *8<=2^46))<|
 some (.inl [.list x1,.list (out++([.i .i64 x]:List MV)),.i .i64 (aQ .i64 (i+1))]))) (
 some (.inr (2,[.list b2,.list out])))) [.list b1,.list ([]:List MV),.i .i64 0]) λp=>
 bT (AI p.1 2) (
 gC p.2 λm6 qw=>
 gL m6 λb3=>
 gC qw λm7 mF=>
 gL m7 λpu=>
 gN mF<|
 some (.cG [.list pu,.list b3,.i .i64 0])) (
 aY (AI p.1 1)<|
 Vt .i64 p.2 λx3 x4 x5=>
 some (.cG [.list x3,.list x4,.i .i64 x5]))
def Ju:GT:=bo 155 (oc xc) zm
theorem He:SG Ju:=J4 zT [] [] 34 [29] [] [] [] [] [] [(3,⟨[1],[],[(0,.sc (.k .l)),(7,.sc (.own 12 3 true)),(8,.sc (.k (.i .i64)))],[(1,[(4,.sc (.k .l)),(5,.sc (.k .l)),(6,.sc (.k (.i .i64)))]),(2,[(0,.sc (.k .l)),(7,.sc (.own 12 3 true))])],[12]⟩)] [] Tryz.func155 (by kernel_rfl) (dB (λ_ _=>by kernel_rfl))
def jM (b most:MV):Option MV:=gL b λb1=>
 gI .i64 most λSi=>
 bd (pw (.list b1)) λrA=>
 gT rA λvs=>
 Jd .u64 .i64 vs λx x1 x2=>
 bT (!decide (x2=0)) (
 some (.cG [.s ([]:List UInt8),.list ([]:List MV),.i .i64 x2])) (
 bT (decide ((aQ .u64 (imax Si 0))<x)) (
 some (.cG [.s ([]:List UInt8),.list ([]:List MV),.i .i64 5])) (
 bM x1 λlen=>
 bT (decide ((aQ .u64 (len:Int))<x)) (
 some (.cG [.s ([]:List UInt8),.list ([]:List MV),.i .i64 2])) (
 bM x1 λdi=>
 aY (decide ((0:Int)<=0/\(0:Int)<=x/\x<=(di:Int)))<|
 zu (By (sh 0) (BY (sh x) x1)) λbs=>
 aY (fZ 1 x1)<|
 bM x1 λgM=>
 aY (decide ((0:Int)<=x/\x<=(gM:Int)/\(gM:Int)<=(gM:Int)))<|
 some (.cG [.s bs,.list (By (sh x) (BY (sh (gM:Int)) x1)),.i .i64 0]))))
def xd:GT:=bo 156 (oc jM) Ju
theorem yi:SG xd:=J4 He [] [] 36 [] [] [] [(8,[0,1,2,3,4,5,6,7,8,9])] [] [] [] [] Tryz.func156 (by kernel_rfl) (dB (λ_ _=>by kernel_rfl))
def xe (a:MV):Option MV:=gL a λa1=>
 bd (xc (.list a1) (.i .i64 6)) λrA=>
 gT rA λvs=>
 Y2 vs λx x1 x2=>
 bT (!decide (x2=0)) (
 some (.cG [.agg (bj 0 0 0 ([]:List UInt8) ([]:List UInt8) 0 0 0),.list ([]:List MV),.i .i64 x2])) (
 bd (jM (.list x1) (.i .i64 100)) λcT=>
 gT cT λnT=>
 gC nT λm3 fP=>
 gS m3 λx3=>
 Af fP λx4 x5=>
 bT (!decide (x5=0)) (
 some (.cG [.agg (bj 0 0 0 ([]:List UInt8) ([]:List UInt8) 0 0 0),.list ([]:List MV),.i .i64 x5])) (
 bd (jM (.list x4) (.i .i64 1000)) λfL=>
 gT fL λr9=>
 gC r9 λm6 qv=>
 gS m6 λx6=>
 Af qv λx7 x8=>
 bT (!decide (x8=0)) (
 some (.cG [.agg (bj 0 0 0 ([]:List UInt8) ([]:List UInt8) 0 0 0),.list ([]:List MV),.i .i64 x8])) (
 idx x 0 λy=>
 gI .i64 y λx9=>
 idx x 1 λy1=>
 gI .i64 y1 λAh=>
 idx x 2 λy2=>
 gI .i64 y2 λJ6=>
 idx x 3 λy3=>
 gI .i64 y3 λHD=>
 idx x 4 λy4=>
 gI .i64 y4 λzl=>
 idx x 5 λy5=>
 gI .i64 y5 λSn=>
 bd (wW (.agg (bj x9 Ah J6 x3 x6 HD zl Sn))) λmW=>
 gB mW λZl=>
 bT (!Zl) (
 some (.cG [.agg (bj 0 0 0 ([]:List UInt8) ([]:List UInt8) 0 0 0),.list ([]:List MV),.i .i64 3])) (
 some (.cG [.agg (bj x9 Ah J6 x3 x6 HD zl Sn),.list x7,.i .i64 0])))))
def Jv:GT:=bo 95 (je xe) xd
theorem Hf:SG Jv:=J4 yi [] [] 68 [] [] [] [(10,[0,1,2,3,4,5,6,7,8,9,10,11,12,13,14,15,16,17,18,19,20,21,22])] [] [] [] [] Tryz.func95 (by kernel_rfl) (ca (λ_=>by kernel_rfl))
def qB (sA:MV):Option MV:=gS sA λyf=>
 bd (pw (.list (pL yf))) λrA=>
 gT rA λvs=>
 Jd .u64 .i64 vs λx x1 x2=>
 bd (
 bT (!decide (x2=0)) (
 some [.b true]) (
 some [.b (decide ((10:Int)<x))])) λnT=>
 gC nT λm3 fP=>
 gB m3 λx3=>
 gN fP<|
 bT x3 (
 some (.cG [.list ([]:List MV),.i .i64 3])) (
 bd (Loop (λll=>
 Vt .u64 ll λb out i=>
 bT (decide (i<x)) (
 bd (xe (.list b)) λcT=>
 gT cT λr9=>
 gC r9 λm7 mF=>
 gA m7 λcs=>
 cF cs λClient Seq Kind Path Value Version Session Span=>
 Af mF λx4 x5=>
 bT (!decide (x5=0)) (
 some (.inr (1,[.list ([]:List MV),.i .i64 3]))) (
 bM out λlen=>
 bM ([.agg (bj Client Seq Kind Path Value Version Session Span)]:List MV) λdi=>
 aY (decide ((len+di) *80<=2^46))<|
 some (.inl [.list x4,.list (out++([.agg (bj Client Seq Kind Path Value Version Session Span)]:List MV)),.i .u64 (aQ .u64 (i+1))]))) (
 some (.inr (2,[.list b,.list out])))) [.list x1,.list ([]:List MV),.i .u64 0]) λp=>
 bT (AI p.1 2) (
 gC p.2 λZj Cs=>
 gL Zj λb1=>
 gC Cs λm19 Js=>
 gL m19 λpu=>
 gN Js<|
 bM b1 λgM=>
 bT (decide ((0:Int)<(gM:Int))) (
 some (.cG [.list ([]:List MV),.i .i64 3])) (
 some (.cG [.list pu,.i .i64 0]))) (
 aY (AI p.1 1)<|
 oLI .i64 p.2 λx6 x7=>
 some (.cG [.list x6,.i .i64 x7])))
def CJ:GT:=bo 48 (je qB) Jv
theorem CL:SG CJ:=J4 Hf [] [] 48 [41] [] [] [] [(2,⟨[4,5,6],[],[],[(0,[(24,.sc (.k .b))])],[25]⟩)] [] [(6,⟨[4],[],[(5,.sc (.k .l)),(7,.sc (.own 25 65 true)),(8,.sc (.k (.i .u64)))],[(1,[(2,.sc (.k .l)),(3,.sc (.k (.i .i64)))]),(2,[(5,.sc (.k .l)),(7,.sc (.own 25 65 true))])],[25]⟩)] [] Tryz.func48 (by kernel_rfl) (ca (λ_=>by kernel_rfl))
def fV (x k:MV):Option MV:=gI .u32 x λx1=>
 gI .i64 k λk1=>
 aY (decide ((0:Int)<=(cH .u64 (aQ .u64 k1) 31)))<|
 aY (decide ((0:Int)<=(aQ .u64 (32-(cH .u64 (aQ .u64 k1) 31)))))<|
 some (.i .u32 (pG .u32 (aQ .u32 (x1 *2^min (sh (cH .u64 (aQ .u64 k1) 31)) (AS .u32))) (No x1 (2^min (sh (aQ .u64 (32-(cH .u64 (aQ .u64 k1) 31)))) (AS .u32)))))
def nP:GT:=bo 266 (oc fV) CJ
theorem rn:SG nP:=J5 CL [] 17 [] [] [] Tryz.func266 (by kernel_rfl) (dB (λ_ _=>by kernel_rfl))
def cP (x k:MV):Option MV:=gI .u32 x λx1=>
 gI .i64 k λk1=>
 bd (fV (.i .u32 x1) (.i .i64 (aQ .i64 (0-k1)))) λrA=>
 gI .u32 rA λx2=>
 some (.i .u32 x2)
def Jw:GT:=bo 243 (oc cP) nP
theorem Hg:SG Jw:=J5 rn [] 9 [] [] [] Tryz.func243 (by kernel_rfl) (dB (λ_ _=>by kernel_rfl))
def xf (b:MV):Option MV:=gL b λb1=>
 idx b1 0 λy=>
 gI .u8 y λx=>
 aY (decide ((0:Int)<=24))<|
 idx b1 1 λy1=>
 gI .u8 y1 λx1=>
 aY (decide ((0:Int)<=16))<|
 idx b1 2 λy2=>
 gI .u8 y2 λx2=>
 aY (decide ((0:Int)<=8))<|
 idx b1 3 λy3=>
 gI .u8 y3 λx3=>
 some (.i .u32 (pG .u32 (pG .u32 (pG .u32 (aQ .u32 ((aQ .u32 x) *2^min (sh 24) (AS .u32))) (aQ .u32 ((aQ .u32 x1) *2^min (sh 16) (AS .u32)))) (aQ .u32 ((aQ .u32 x2) *2^min (sh 8) (AS .u32)))) (aQ .u32 x3)))
def Jx:GT:=bo 265 (je xf) Jw
theorem Hh:SG Jx:=J4 Hg [] [] 25 [] [] [] [(1,[0,1,2,3,4,5,6,7,8,9,10,11,12,13,14,15,16,17,18,19,20,21,22])] [] [] [] [] Tryz.func265 (by kernel_rfl) (ca (λ_=>by kernel_rfl))
def jN (b:MV):Option MV:=gL b λb1=>
 bd (Loop (λlF=>
 gC lF λm lk=>
 gH .u32 62 m λw1=>
 gC lk λm1 sZ=>
 gI .i64 m1 λx=>
 gN sZ<|
 bT (decide (x<16)) (
 aY (fZ 1 b1)<|
 bM b1 λlen=>
 aY (decide ((0:Int)<=(aQ .i64 (4 *x))/\(aQ .i64 (4 *x))<=(len:Int)/\(len:Int)<=(len:Int)))<|
 bd (xf (.list (By (sh (aQ .i64 (4 *x))) (BY (sh (len:Int)) b1)))) λrA=>
 gI .u32 rA λx1=>
 aY (decide ((0:Int)<=x/\x<64))<|
 some (.inl [.h .u32 62 (w1.set (sh x) x1),.i .i64 (aQ .i64 (x+1))])) (
 some (.inr (2,[.h .u32 62 w1])))) [.h .u32 62 (zA 62),.i .i64 0]) λp=>
 aY (AI p.1 2)<|
 gC p.2 λm2 fP=>
 gH .u32 62 m2 λw2=>
 gN fP<|
 bd (Loop (λll=>
 gC ll λm3 yl=>
 gH .u32 62 m3 λw4=>
 gC yl λm4 qv=>
 gI .i64 m4 λt=>
 gN qv<|
 bT (decide (t<64)) (
 aY (decide ((0:Int)<=(aQ .i64 (t-15))/\(aQ .i64 (t-15))<64))<|
 aY (decide ((0:Int)<=(aQ .i64 (t-2))/\(aQ .i64 (t-2))<64))<|
 bd (cP (.i .u32 (w4.getD (sh (aQ .i64 (t-15))) 0)) (.i .i64 7)) λcT=>
 gI .u32 cT λx2=>
 bd (cP (.i .u32 (w4.getD (sh (aQ .i64 (t-15))) 0)) (.i .i64 18)) λfL=>
 gI .u32 fL λx3=>
 aY (decide ((0:Int)<=3))<|
 bd (cP (.i .u32 (w4.getD (sh (aQ .i64 (t-2))) 0)) (.i .i64 17)) λmW=>
 gI .u32 mW λx4=>
 bd (cP (.i .u32 (w4.getD (sh (aQ .i64 (t-2))) 0)) (.i .i64 19)) λsF=>
 gI .u32 sF λx5=>
 aY (decide ((0:Int)<=10))<|
 aY (decide ((0:Int)<=(aQ .i64 (t-16))/\(aQ .i64 (t-16))<64))<|
 aY (decide ((0:Int)<=(aQ .i64 (t-7))/\(aQ .i64 (t-7))<64))<|
 aY (decide ((0:Int)<=t/\t<64))<|
 some (.inl [.h .u32 62 (w4.set (sh t) (aQ .u32 ((aQ .u32 ((aQ .u32 ((w4.getD (sh (aQ .i64 (t-16))) 0)+(bn .u32 (bn .u32 x2 x3) (No (w4.getD (sh (aQ .i64 (t-15))) 0) (2^min (sh 3) (AS .u32))))))+(w4.getD (sh (aQ .i64 (t-7))) 0)))+(bn .u32 (bn .u32 x4 x5) (No (w4.getD (sh (aQ .i64 (t-2))) 0) (2^min (sh 10) (AS .u32))))))),.i .i64 (aQ .i64 (t+1))])) (
 some (.inr (4,[.h .u32 62 w4])))) [.h .u32 62 w2,.i .i64 16]) λp1=>
 aY (AI p1.1 4)<|
 gC p1.2 λm5 qw=>
 gH .u32 62 m5 λw5=>
 gN qw<|
 some (.h .u32 62 w5)
def xg:GT:=bo 241 (je jN) Jx
theorem ym:SG xg:=J4 Hh [] [] 64 [] [] [] [(9,[0,1,2,3,4,5,6,7,8,9]),(12,[0,1,2,3,4,5,6,7,8,9,10,11,12,13,14,15])] [] [] [(7,⟨[],[],[(2,.box [.k (.h .u32 62)]),(4,.sc (.k (.i .i64)))],[(4,[(2,.box [.k (.h .u32 62)])])],[]⟩),(2,⟨[0],[],[(2,.box [.k (.h .u32 62)]),(9,.sc (.k (.i .i64)))],[(2,[(2,.box [.k (.h .u32 62)])])],[]⟩)] [] Tryz.func241 (by kernel_rfl) (ca (λ_=>by kernel_rfl))
def pz:Option MV:=some (.rp [.h .u32 62 [1116352408,1899447441,3049323471,3921009573,961987163,1508970993,2453635748,2870763221,3624381080,310598401,607225278,1426881987,1925078388,2162078206,2614888103,3248222580,3835390401,4022224774,264347078,604807628,770255983,1249150122,1555081692,1996064986,2554220882,2821834349,2952996808,3210313671,3336571891,3584528711,113926993,338241895,666307205,773529912,1294757372,1396182291,1695183700,1986661051,2177026350,2456956037,2730485921,2820302411,3259730800,3345764771,3516065817,3600352804,4094571909,275423344,430227734,506948616,659060556,883997877,958139571,1322822218,1537002063,1747873779,1955562222,2024104815,2227730452,2361852424,2428436474,2756734187,3204031479,3329325298]])
def yn:GT:=bo 242 (Oj pz) xg
theorem Ec:SG yn:=J5 ym [] 3 [] [] [] Tryz.func242 (by kernel_rfl) (Ae (by kernel_rfl))
def s8 (out n long:MV):Option MV:=gF out λpu=>
 gI .u64 n λn1=>
 gI .i64 long λSo=>
 bd (Loop (λlF=>
 Af lF λLo i=>
 bT (decide ((0:Int)<=i)) (
 aY (decide ((0:Int)<=(aQ .i64 (8 *i))))<|
 bM Lo λlen=>
 bM ([.i .u8 (aQ .u8 (No n1 (2^min (sh (aQ .i64 (8 *i))) (AS .u64))))]:List MV) λdi=>
 aY (decide ((len+di) *1<=2^46))<|
 some (.inl [.list (Lo++([.i .u8 (aQ .u8 (No n1 (2^min (sh (aQ .i64 (8 *i))) (AS .u64))))]:List MV)),.i .i64 (aQ .i64 (i-1))])) (
 some (.inr (2,[.list Lo])))) [.list pu,.i .i64 (aQ .i64 (So-1))]) λp=>
 aY (AI p.1 2)<|
 gC p.2 λm2 fP=>
 gL m2 λZm=>
 gN fP<|
 some (.fresh Zm)
def Jy:GT:=bo 211 (YZ s8) yn
theorem Hi:SG Jy:=Ec.fnG (c':=J3 yn [] 23 [20] [] [] [] [] [] [(2,⟨[1],[],[(0,.sc (.own 5000000 5 false)),(7,.sc (.k (.i .i64)))],[(2,[(0,.sc (.own 5000000 5 false))])],[]⟩)] []) (ty:=5) ⟨rfl,rfl,rfl,rfl,rfl,rfl,rfl,rfl,rfl⟩ rfl eP za zb BU jI qk Tryz.func211 (by kernel_rfl) (λ_=>rfl) (Vm λ_ _ _=>by kernel_rfl)
def Ak (n:MV):Option MV:=gI .i64 n λn1=>
 aY (!decide ((64:Int)=0))<|
 aY (!decide ((64:Int)=0))<|
 aY (decide ((0:Int)<=(aQ .i64 (1+(IT (aQ .i64 (119-(IT (imax n1 0) 64))) 64)))/\(aQ .i64 (1+(IT (aQ .i64 (119-(IT (imax n1 0) 64))) 64)))<=(aQ .i64 ((aQ .i64 (1+(IT (aQ .i64 (119-(IT (imax n1 0) 64))) 64)))+8))/\(aQ .i64 ((aQ .i64 (1+(IT (aQ .i64 (119-(IT (imax n1 0) 64))) 64)))+8)) *1<=2^46))<|
 idx (aab (sh (aQ .i64 (1+(IT (aQ .i64 (119-(IT (imax n1 0) 64))) 64)))) (.i .u8 0)) 0 λy=>
 gI .u8 y λx=>
 bd (s8 (.fresh ((aab (sh (aQ .i64 (1+(IT (aQ .i64 (119-(IT (imax n1 0) 64))) 64)))) (.i .u8 0)).set (sh 0) (.i .u8 128))) (.i .u64 (aQ .u64 ((aQ .u64 (imax n1 0)) *8))) (.i .i64 8)) λrA=>
 gF rA λxs=>
 some (.list xs)
def MW:GT:=bo 210 (je Ak) Jy
theorem Jz:SG MW:=J5 Hi [] 24 [] [] [] Tryz.func210 (by kernel_rfl) (ca (λ_=>by kernel_rfl))
def ub:Option MV:=some (.h .u32 6 [1779033703,3144134277,1013904242,2773480762,1359893119,2600822924,528734635,1541459225])
def FE:GT:=bo 208 (Oj ub) MW
theorem Ed:SG FE:=J5 Jz [] 2 [] [] [] Tryz.func208 (by kernel_rfl) (Ae (by kernel_rfl))
def Al (n:MV):Option MV:=gI .i64 n λn1=>
 bd (Loop (λlF=>
 gC lF λm lk=>
 gL m λout=>
 gN lk<|
 bM out λlen=>
 aY (!decide ((64:Int)=0))<|
 bT (!decide ((IT (aQ .i64 ((aQ .i64 ((imax n1 0)+(len:Int)))+8)) 64)=0)) (
 bM out λdi=>
 bM ([.i .u8 0]:List MV) λgM=>
 aY (decide ((di+gM) *1<=2^46))<|
 some (.inl [.list (out++([.i .u8 0]:List MV))])) (
 some (.inr (2,[.list out])))) [.list ([.i .u8 128]:List MV)]) λp=>
 aY (AI p.1 2)<|
 gC p.2 λm1 sZ=>
 gL m1 λpu=>
 gN sZ<|
 bd (Loop (λfP=>
 Af fP λLo i=>
 bT (decide ((0:Int)<=i)) (
 aY (decide ((0:Int)<=(aQ .i64 (8 *i))))<|
 bM Lo λqu=>
 bM ([.i .u8 (aQ .u8 (No (aQ .u64 ((aQ .u64 (imax n1 0)) *8)) (2^min (sh (aQ .i64 (8 *i))) (AS .u64))))]:List MV) λCp=>
 aY (decide ((qu+Cp) *1<=2^46))<|
 some (.inl [.list (Lo++([.i .u8 (aQ .u8 (No (aQ .u64 ((aQ .u64 (imax n1 0)) *8)) (2^min (sh (aQ .i64 (8 *i))) (AS .u64))))]:List MV)),.i .i64 (aQ .i64 (i-1))])) (
 some (.inr (4,[.list Lo])))) [.list pu,.i .i64 7]) λp1=>
 aY (AI p1.1 4)<|
 gC p1.2 λm4 qv=>
 gL m4 λZm=>
 gN qv<|
 some (.list Zm)
def MX:GT:=bo 160 (je Al) FE
theorem JA:SG MX:=J4 Ed [] [] 35 [17,32] [] [] [] [] [] [(7,⟨[4],[],[(3,.sc (.own 8 5 true)),(5,.sc (.k (.i .i64)))],[(4,[(3,.sc (.own 8 5 true))])],[8]⟩),(3,⟨[0],[],[(3,.sc (.own 8 5 true))],[(2,[(3,.sc (.own 8 5 true))])],[8]⟩)] [] Tryz.func160 (by kernel_rfl) (ca (λ_=>by kernel_rfl))
def cX (x k:MV):Option MV:=gI .u32 x λx1=>
 gI .i64 k λk1=>
 aY (decide ((0:Int)<=k1))<|
 aY (decide ((0:Int)<=(aQ .i64 (32-k1))))<|
 some (.i .u32 (pG .u32 (No x1 (2^min (sh k1) (AS .u32))) (aQ .u32 (x1 *2^min (sh (aQ .i64 (32-k1))) (AS .u32)))))
def CM:GT:=bo 214 (oc cX) MX
theorem CO:SG CM:=J4 JA [] [] 13 [] [] [] [(1,[0,1,2,3,4,5,6,7,8])] [] [] [] [] Tryz.func214 (by kernel_rfl) (dB (λ_ _=>by kernel_rfl))
def lI (a:MV):Option MV:=gL a λa1=>
 bM a1 λlen=>
 bT (!decide ((len:Int)=64)) (
 some (.cG [.h .u32 62 (zA 62),.i .i64 1])) (
 bd (Loop (λlF=>
 gC lF λm lk=>
 gH .u32 62 m λx=>
 gC lk λm1 sZ=>
 gI .i64 m1 λx1=>
 gN sZ<|
 bT (decide (x1<16)) (
 idx a1 (aQ .i64 (4 *x1)) λy=>
 gI .u8 y λx2=>
 aY (decide ((0:Int)<=24))<|
 idx a1 (aQ .i64 ((aQ .i64 (4 *x1))+1)) λy1=>
 gI .u8 y1 λx3=>
 aY (decide ((0:Int)<=16))<|
 idx a1 (aQ .i64 ((aQ .i64 (4 *x1))+2)) λy2=>
 gI .u8 y2 λx4=>
 aY (decide ((0:Int)<=8))<|
 idx a1 (aQ .i64 ((aQ .i64 (4 *x1))+3)) λy3=>
 gI .u8 y3 λx5=>
 aY (decide ((0:Int)<=x1/\x1<64))<|
 some (.inl [.h .u32 62 (x.set (sh x1) (pG .u32 (pG .u32 (pG .u32 (aQ .u32 ((aQ .u32 x2) *2^min (sh 24) (AS .u32))) (aQ .u32 ((aQ .u32 x3) *2^min (sh 16) (AS .u32)))) (aQ .u32 ((aQ .u32 x4) *2^min (sh 8) (AS .u32)))) (aQ .u32 x5))),.i .i64 (aQ .i64 (x1+1))])) (
 some (.inr (2,[.h .u32 62 x])))) [.h .u32 62 (zA 62),.i .i64 0]) λp=>
 aY (AI p.1 2)<|
 gC p.2 λm2 fP=>
 gH .u32 62 m2 λx6=>
 gN fP<|
 bd (Loop (λll=>
 gC ll λm3 yl=>
 gH .u32 62 m3 λx7=>
 gC yl λm4 qv=>
 gI .i64 m4 λx8=>
 gN qv<|
 bT (decide (x8<64)) (
 aY (decide ((0:Int)<=(aQ .i64 (x8-15))/\(aQ .i64 (x8-15))<64))<|
 aY (decide ((0:Int)<=(aQ .i64 (x8-2))/\(aQ .i64 (x8-2))<64))<|
 bd (cX (.i .u32 (x7.getD (sh (aQ .i64 (x8-15))) 0)) (.i .i64 7)) λrA=>
 gI .u32 rA λx9=>
 bd (cX (.i .u32 (x7.getD (sh (aQ .i64 (x8-15))) 0)) (.i .i64 18)) λcT=>
 gI .u32 cT λAh=>
 aY (decide ((0:Int)<=3))<|
 bd (cX (.i .u32 (x7.getD (sh (aQ .i64 (x8-2))) 0)) (.i .i64 17)) λfL=>
 gI .u32 fL λJ6=>
 bd (cX (.i .u32 (x7.getD (sh (aQ .i64 (x8-2))) 0)) (.i .i64 19)) λmW=>
 gI .u32 mW λHD=>
 aY (decide ((0:Int)<=10))<|
 aY (decide ((0:Int)<=(aQ .i64 (x8-7))/\(aQ .i64 (x8-7))<64))<|
 aY (decide ((0:Int)<=(aQ .i64 (x8-16))/\(aQ .i64 (x8-16))<64))<|
 aY (decide ((0:Int)<=x8/\x8<64))<|
 some (.inl [.h .u32 62 (x7.set (sh x8) (aQ .u32 ((aQ .u32 ((aQ .u32 ((bn .u32 (bn .u32 J6 HD) (No (x7.getD (sh (aQ .i64 (x8-2))) 0) (2^min (sh 10) (AS .u32))))+(x7.getD (sh (aQ .i64 (x8-7))) 0)))+(bn .u32 (bn .u32 x9 Ah) (No (x7.getD (sh (aQ .i64 (x8-15))) 0) (2^min (sh 3) (AS .u32))))))+(x7.getD (sh (aQ .i64 (x8-16))) 0)))),.i .i64 (aQ .i64 (x8+1))])) (
 some (.inr (4,[.h .u32 62 x7])))) [.h .u32 62 x6,.i .i64 16]) λp1=>
 aY (AI p1.1 4)<|
 gC p1.2 λm5 qw=>
 gH .u32 62 m5 λzl=>
 gN qw<|
 some (.cG [.h .u32 62 zl,.i .i64 0]))
def xh:GT:=bo 212 (je lI) CM
theorem yo:SG xh:=J4 CO [] [] 99 [] [] [] [(7,[0,1,2,3,4,5,6,7,8,9,10,11,12,13,14,15,16,17,18,19,20,21,22,23,24,25,26,27,28,29,30,31,32,33,34,35]),(11,[0,1,2,3,4,5,6,7,8,9]),(14,[0,1,2,3,4,5,6,7,8,9,10,11,12,13,14,15])] [] [] [(9,⟨[2],[],[(4,.box [.k (.h .u32 62)]),(6,.sc (.k (.i .i64)))],[(4,[(4,.box [.k (.h .u32 62)])])],[]⟩),(5,⟨[0,2],[],[(4,.box [.k (.h .u32 62)]),(5,.sc (.k (.i .i64)))],[(2,[(4,.box [.k (.h .u32 62)])])],[]⟩)] [] Tryz.func212 (by kernel_rfl) (ca (λ_=>by kernel_rfl))
def qC:Option MV:=some (.h .u32 62 [1116352408,1899447441,3049323471,3921009573,961987163,1508970993,2453635748,2870763221,3624381080,310598401,607225278,1426881987,1925078388,2162078206,2614888103,3248222580,3835390401,4022224774,264347078,604807628,770255983,1249150122,1555081692,1996064986,2554220882,2821834349,2952996808,3210313671,3336571891,3584528711,113926993,338241895,666307205,773529912,1294757372,1396182291,1695183700,1986661051,2177026350,2456956037,2730485921,2820302411,3259730800,3345764771,3516065817,3600352804,4094571909,275423344,430227734,506948616,659060556,883997877,958139571,1322822218,1537002063,1747873779,1955562222,2024104815,2227730452,2361852424,2428436474,2756734187,3204031479,3329325298])
def CP:GT:=bo 213 (Oj qC) xh
theorem CQ:SG CP:=J5 yo [] 2 [] [] [] Tryz.func213 (by kernel_rfl) (Ae (by kernel_rfl))
def uc (a a1:MV):Option MV:=gH .u32 6 a λa2=>
 gL a1 λCR=>
 bd (lI (.list CR)) λrA=>
 gT rA λvs=>
 gC vs λm lF=>
 gH .u32 62 m λx=>
 gC lF λm1 lk=>
 gI .i64 m1 λx1=>
 gN lk<|
 bT (!decide (x1=0)) (
 some (.cG [.h .u32 6 (zA 6),.i .i64 x1])) (
 bd (qC) λcT=>
 gH .u32 62 cT λx2=>
 bd (Loop (λsZ=>
 gC sZ λm2 fP=>
 gH .u32 6 m2 λx3=>
 gC fP λm3 ll=>
 gI .i64 m3 λx4=>
 gN ll<|
 bT (decide (x4<64)) (
 aY (decide ((0:Int)<=0/\(0:Int)<8))<|
 aY (decide ((0:Int)<=4/\(4:Int)<8))<|
 aY (decide ((0:Int)<=6/\(6:Int)<8))<|
 bd (cX (.i .u32 (x3.getD (sh 4) 0)) (.i .i64 6)) λfL=>
 gI .u32 fL λx5=>
 bd (cX (.i .u32 (x3.getD (sh 4) 0)) (.i .i64 11)) λmW=>
 gI .u32 mW λx6=>
 bd (cX (.i .u32 (x3.getD (sh 4) 0)) (.i .i64 25)) λsF=>
 gI .u32 sF λx7=>
 aY (decide ((0:Int)<=7/\(7:Int)<8))<|
 aY (decide ((0:Int)<=5/\(5:Int)<8))<|
 aY (decide ((0:Int)<=x4/\x4<64))<|
 aY (decide ((0:Int)<=x4/\x4<64))<|
 bd (cX (.i .u32 (x3.getD (sh 0) 0)) (.i .i64 2)) λxy=>
 gI .u32 xy λx8=>
 bd (cX (.i .u32 (x3.getD (sh 0) 0)) (.i .i64 13)) λxz=>
 gI .u32 xz λx9=>
 bd (cX (.i .u32 (x3.getD (sh 0) 0)) (.i .i64 22)) λy9=>
 gI .u32 y9 λAh=>
 aY (decide ((0:Int)<=1/\(1:Int)<8))<|
 aY (decide ((0:Int)<=2/\(2:Int)<8))<|
 aY (decide ((0:Int)<=1/\(1:Int)<8))<|
 aY (decide ((0:Int)<=2/\(2:Int)<8))<|
 aY (decide ((0:Int)<=0/\(0:Int)<8))<|
 aY (decide ((0:Int)<=1/\(1:Int)<8))<|
 aY (decide ((0:Int)<=2/\(2:Int)<8))<|
 aY (decide ((0:Int)<=3/\(3:Int)<8))<|
 aY (decide ((0:Int)<=4/\(4:Int)<8))<|
 aY (decide ((0:Int)<=5/\(5:Int)<8))<|
 aY (decide ((0:Int)<=6/\(6:Int)<8))<|
 some (.inl [.h .u32 6 [(aQ .u32 ((aQ .u32 ((aQ .u32 ((aQ .u32 ((aQ .u32 ((x3.getD (sh 7) 0)+(bn .u32 (bn .u32 x5 x6) x7)))+(pG .u32 (cH .u32 (x3.getD (sh 4) 0) (x3.getD (sh 5) 0)) (cH .u32 (bn .u32 (x3.getD (sh 4) 0) 4294967295) (x3.getD (sh 6) 0)))))+(x2.getD (sh x4) 0)))+(x.getD (sh x4) 0)))+(aQ .u32 ((bn .u32 (bn .u32 x8 x9) Ah)+(pG .u32 (pG .u32 (cH .u32 (x3.getD (sh 0) 0) (x3.getD (sh 1) 0)) (cH .u32 (x3.getD (sh 0) 0) (x3.getD (sh 2) 0))) (cH .u32 (x3.getD (sh 1) 0) (x3.getD (sh 2) 0))))))),(x3.getD (sh 0) 0),(x3.getD (sh 1) 0),(x3.getD (sh 2) 0),(aQ .u32 ((x3.getD (sh 3) 0)+(aQ .u32 ((aQ .u32 ((aQ .u32 ((aQ .u32 ((x3.getD (sh 7) 0)+(bn .u32 (bn .u32 x5 x6) x7)))+(pG .u32 (cH .u32 (x3.getD (sh 4) 0) (x3.getD (sh 5) 0)) (cH .u32 (bn .u32 (x3.getD (sh 4) 0) 4294967295) (x3.getD (sh 6) 0)))))+(x2.getD (sh x4) 0)))+(x.getD (sh x4) 0))))),(x3.getD (sh 4) 0),(x3.getD (sh 5) 0),(x3.getD (sh 6) 0)],.i .i64 (aQ .i64 (x4+1))])) (
 some (.inr (2,[.h .u32 6 x3])))) [.h .u32 6 a2,.i .i64 0]) λp=>
 aY (AI p.1 2)<|
 gC p.2 λm4 yl=>
 gH .u32 6 m4 λJ6=>
 gN yl<|
 bd (Loop (λqv=>
 gC qv λm5 qw=>
 gH .u32 6 m5 λHD=>
 gC qw λm6 mF=>
 gI .i64 m6 λzl=>
 gN mF<|
 bT (decide (zl<8)) (
 aY (decide ((0:Int)<=zl/\zl<8))<|
 aY (decide ((0:Int)<=zl/\zl<8))<|
 aY (decide ((0:Int)<=zl/\zl<8))<|
 some (.inl [.h .u32 6 (HD.set (sh zl) (aQ .u32 ((HD.getD (sh zl) 0)+(a2.getD (sh zl) 0)))),.i .i64 (aQ .i64 (zl+1))])) (
 some (.inr (4,[.h .u32 6 HD])))) [.h .u32 6 J6,.i .i64 0]) λp1=>
 aY (AI p1.1 4)<|
 gC p1.2 λm7 BV=>
 gH .u32 6 m7 λSn=>
 gN BV<|
 some (.cG [.h .u32 6 Sn,.i .i64 0]))
def FF:GT:=bo 161 (oc uc) CP
theorem Ee:SG FF:=J4 CQ [] [] 129 [] [] [] [(9,[0,1,2,3,4,5,6,7,8]),(11,[0,1,2,3,4,5,6,7,8,9,10,11,12,13,14,15,16,17,18,19,20,21,22]),(18,[0,1,2,3,4,5,6,7,8,9])] [] [] [(16,⟨[2,4],[],[(9,.box [.k (.h .u32 6)]),(18,.sc (.k (.i .i64)))],[(4,[(9,.box [.k (.h .u32 6)])])],[]⟩),(7,⟨[2,4,6,8],[],[(9,.box [.k (.h .u32 6)]),(10,.sc (.k (.i .i64)))],[(2,[(9,.box [.k (.h .u32 6)])])],[]⟩)] [] Tryz.func161 (by kernel_rfl) (dB (λ_ _=>by kernel_rfl))
def Am (b:MV):Option MV:=gL b λb1=>
 aY (fZ 1 b1)<|
 bM ([]:List MV) λlen=>
 bM b1 λdi=>
 aY (decide ((len+di) *1<=2^46))<|
 bM b1 λgM=>
 bd (Al (.i .i64 (gM:Int))) λrA=>
 gL rA λx=>
 aY (fZ 1 x)<|
 bM (([]:List MV)++b1) λqu=>
 bM x λCp=>
 aY (decide ((qu+Cp) *1<=2^46))<|
 bd (Loop (λlF=>
 gC lF λm lk=>
 gH .u32 6 m λsA=>
 gC lk λm1 sZ=>
 gI .i64 m1 λi=>
 gN sZ<|
 bM ((([]:List MV)++b1)++x) λzR=>
 bT (decide (i<(zR:Int))) (
 bM ((([]:List MV)++b1)++x) λCB=>
 aY (decide ((0:Int)<=i/\i<=(aQ .i64 (i+64))/\(aQ .i64 (i+64))<=(CB:Int)))<|
 bd (uc (.h .u32 6 sA) (.list (By (sh i) (BY (sh (aQ .i64 (i+64))) ((([]:List MV)++b1)++x))))) λcT=>
 gT cT λvs=>
 gC vs λm2 fP=>
 gH .u32 6 m2 λx1=>
 gC fP λm3 ll=>
 gI .i64 m3 λx2=>
 gN ll<|
 some (.inl [.h .u32 6 x1,.i .i64 (aQ .i64 (i+64))])) (
 some (.inr (2,[.h .u32 6 sA])))) [.h .u32 6 [1779033703,3144134277,1013904242,2773480762,1359893119,2600822924,528734635,1541459225],.i .i64 0]) λp=>
 aY (AI p.1 2)<|
 gC p.2 λm4 yl=>
 gH .u32 6 m4 λyf=>
 gN yl<|
 bd (Loop (λqv=>
 gC qv λm5 qw=>
 gH .u8 30 m5 λout=>
 gC qw λm6 mF=>
 gI .i64 m6 λi1=>
 gN mF<|
 bT (decide (i1<32)) (
 aY (!decide ((4:Int)=0))<|
 aY (decide ((0:Int)<=(aQ .i64 (aaa i1 4))/\(aQ .i64 (aaa i1 4))<8))<|
 aY (!decide ((4:Int)=0))<|
 aY (decide ((0:Int)<=(aQ .i64 (24-(aQ .i64 (8 *(IT i1 4)))))))<|
 aY (decide ((0:Int)<=i1/\i1<32))<|
 some (.inl [.h .u8 30 (out.set (sh i1) (aQ .u8 (No (yf.getD (sh (aQ .i64 (aaa i1 4))) 0) (2^min (sh (aQ .i64 (24-(aQ .i64 (8 *(IT i1 4)))))) (AS .u32))))),.i .i64 (aQ .i64 (i1+1))])) (
 some (.inr (4,[.h .u8 30 out])))) [.h .u8 30 (zA 30),.i .i64 0]) λp1=>
 aY (AI p1.1 4)<|
 gC p1.2 λm7 BV=>
 gH .u8 30 m7 λpu=>
 gN BV<|
 some (.h .u8 30 pu)
def MY:GT:=bo 97 (je Am) FF
theorem JB:SG MY:=J4 Ee [] [] 54 [] [] [] [(7,[0,1,2,3,4,5,6,7,8,9,10,11,12])] [] [] [(11,⟨[2,4],[],[(8,.box [.k (.h .u8 30)]),(9,.sc (.k (.i .i64)))],[(4,[(8,.box [.k (.h .u8 30)])])],[10]⟩),(5,⟨[2,3],[10],[(4,.box [.k (.h .u32 6)]),(5,.sc (.k (.i .i64)))],[(2,[(4,.box [.k (.h .u32 6)])])],[10]⟩)] [] Tryz.func97 (by kernel_rfl) (ca (λ_=>by kernel_rfl))
def qD (sA:MV):Option MV:=gS sA λyf=>
 bd (Am (.list (pL yf))) λrA=>
 gH .u8 30 rA λx=>
 some (.h .u8 30 x)
def CT:GT:=bo 50 (je qD) MY
theorem CU:SG CT:=J5 JB [] 6 [] [] [] Tryz.func50 (by kernel_rfl) (ca (λ_=>by kernel_rfl))
def gW2:GT:=Vp 209 CT
theorem Sp:cA Tryz.prog TD gW2:=CU.alt Se
def qE (a:List MV)(a1:MV):Option MV:=gL a1 λCR=>
 gC a λm lF=>
 gH .u32 6 m λstate=>
 Af lF λleft long=>
 bd (jN (.list CR)) λrA=>
 gH .u32 62 rA λx=>
 bd (pz) λcT=>
 gR cT λm3=>
 aY (decide ((0:Int)<=0/\(0:Int)<8))<|
 aY (decide ((0:Int)<=1/\(1:Int)<8))<|
 aY (decide ((0:Int)<=2/\(2:Int)<8))<|
 aY (decide ((0:Int)<=3/\(3:Int)<8))<|
 aY (decide ((0:Int)<=4/\(4:Int)<8))<|
 aY (decide ((0:Int)<=5/\(5:Int)<8))<|
 aY (decide ((0:Int)<=6/\(6:Int)<8))<|
 aY (decide ((0:Int)<=7/\(7:Int)<8))<|
 bd (Loop (λfP=>
 gC fP λm4 ll=>
 gI .u32 m4 λx1=>
 gC ll λm5 yl=>
 gI .u32 m5 λx2=>
 gC yl λm6 qv=>
 gI .u32 m6 λx3=>
 gC qv λm7 qw=>
 gI .u32 m7 λx4=>
 gC qw λm8 mF=>
 gI .u32 m8 λx5=>
 gC mF λm9 BV=>
 gI .u32 m9 λx6=>
 gC BV λSf BW=>
 gI .u32 Sf λx7=>
 Pm .u32 .i64 BW λx8 x9=>
 bT (decide (x9<64)) (
 gP m3 λcs=>
 gC cs λm13 Jo=>
 gN Jo<|
 gH .u32 62 m13 λAh=>
 aY (decide ((0:Int)<=x9/\x9<64))<|
 aY (decide ((0:Int)<=x9/\x9<64))<|
 bd (cP (.i .u32 x5) (.i .i64 6)) λfL=>
 gI .u32 fL λJ6=>
 bd (cP (.i .u32 x5) (.i .i64 11)) λmW=>
 gI .u32 mW λHD=>
 bd (cP (.i .u32 x5) (.i .i64 25)) λsF=>
 gI .u32 sF λzl=>
 bd (cP (.i .u32 x1) (.i .i64 2)) λxy=>
 gI .u32 xy λSn=>
 bd (cP (.i .u32 x1) (.i .i64 13)) λxz=>
 gI .u32 xz λZl=>
 bd (cP (.i .u32 x1) (.i .i64 22)) λy9=>
 gI .u32 y9 λx16=>
 some (.inl [.i .u32 (aQ .u32 ((aQ .u32 ((aQ .u32 ((aQ .u32 ((aQ .u32 (x8+(bn .u32 (bn .u32 J6 HD) zl)))+(bn .u32 x7 (cH .u32 x5 (bn .u32 x6 x7)))))+(Ah.getD (sh x9) 0)))+(x.getD (sh x9) 0)))+(aQ .u32 ((bn .u32 (bn .u32 Sn Zl) x16)+(bn .u32 (bn .u32 (cH .u32 x1 x2) (cH .u32 x1 x3)) (cH .u32 x2 x3)))))),.i .u32 x1,.i .u32 x2,.i .u32 x3,.i .u32 (aQ .u32 (x4+(aQ .u32 ((aQ .u32 ((aQ .u32 ((aQ .u32 (x8+(bn .u32 (bn .u32 J6 HD) zl)))+(bn .u32 x7 (cH .u32 x5 (bn .u32 x6 x7)))))+(Ah.getD (sh x9) 0)))+(x.getD (sh x9) 0))))),.i .u32 x5,.i .u32 x6,.i .u32 x7,.i .i64 (aQ .i64 (x9+1))])) (
 some (.inr (2,[.i .u32 x1,.i .u32 x2,.i .u32 x3,.i .u32 x4,.i .u32 x5,.i .u32 x6,.i .u32 x7,.i .u32 x8])))) [.i .u32 (state.getD (sh 0) 0),.i .u32 (state.getD (sh 1) 0),.i .u32 (state.getD (sh 2) 0),.i .u32 (state.getD (sh 3) 0),.i .u32 (state.getD (sh 4) 0),.i .u32 (state.getD (sh 5) 0),.i .u32 (state.getD (sh 6) 0),.i .u32 (state.getD (sh 7) 0),.i .i64 0]) λp=>
 aY (AI p.1 2)<|
 gC p.2 λm14 Sq=>
 gI .u32 m14 λx17=>
 gC Sq λm15 Sr=>
 gI .u32 m15 λx18=>
 gC Sr λm16 Ss=>
 gI .u32 m16 λx19=>
 gC Ss λVJ Jg=>
 gI .u32 VJ λx20=>
 gC Jg λZj Jn=>
 gI .u32 Zj λx21=>
 gC Jn λm19 Cs=>
 gI .u32 m19 λx22=>
 Pm .u32 .u32 Cs λx23 x24=>
 bd (Loop (λSu=>
 gC Su λm22 Sv=>
 gI .i64 m22 λOD=>
 gC Sv λm23 ade=>
 gH .u32 6 m23 λLp=>
 Af ade λx27 x28=>
 bT (decide (OD<8)) (
 aY (decide ((0:Int)<=OD/\OD<8))<|
 aY (decide ((0:Int)<=OD/\OD<8))<|
 aY (decide ((0:Int)<=OD/\OD<8))<|
 some (.inl [.i .i64 (aQ .i64 (OD+1)),.h .u32 6 (Lp.set (sh OD) (aQ .u32 ((Lp.getD (sh OD) 0)+([x17,x18,x19,x20,x21,x22,x23,x24].getD (sh OD) 0)))),.list x27,.i .i64 x28])) (
 some (.inr (4,[.h .u32 6 Lp,.list x27,.i .i64 x28])))) [.i .i64 0,.h .u32 6 state,.list left,.i .i64 long]) λp1=>
 aY (AI p1.1 4)<|
 gC p1.2 λm26 Sk=>
 gH .u32 6 m26 λx29=>
 Af Sk λx30 x31=>
 some (.gk (.cG []) [.h .u32 6 x29,.list x30,.i .i64 x31])
def CV:GT:=bo 209 (cl2 qE) gW2
theorem CW:cA Tryz.prog TD CV:=ac5 Sp 0 MN MN [] [(0,1000000)] 141 [] [] [] [(1,[0,1,2,3,4,5,6,7,8,9,10,11,12,13,14,15,16,17,18,19,20,21,22,23,24,25,26,27,28,29,30,31,32,33,34,35,36,37,38,39]),(5,[0,1,3,6,10,11,12,13,14,15,16,18,19,20,21,22,24,25,26,2,4,5,7,8,9,17,23,27,28]),(12,[0,1,2,3,4,5,6,7,8,9])] [] [] [(10,⟨[0,126],[],[(127,.sc (.k (.i .i64))),(1000000,.box [.k (.h .u32 6),.k .l,.k (.i .i64)])],[(4,[(1000000,.box [.k (.h .u32 6),.k .l,.k (.i .i64)])])],[]⟩),(3,⟨[0,4,5,1000000],[],[(6,.sc (.k (.i .u32))),(7,.sc (.k (.i .u32))),(8,.sc (.k (.i .u32))),(9,.sc (.k (.i .u32))),(10,.sc (.k (.i .u32))),(11,.sc (.k (.i .u32))),(12,.sc (.k (.i .u32))),(13,.sc (.k (.i .u32))),(54,.sc (.k (.i .i64)))],[(2,[(6,.sc (.k (.i .u32))),(7,.sc (.k (.i .u32))),(8,.sc (.k (.i .u32))),(9,.sc (.k (.i .u32))),(10,.sc (.k (.i .u32))),(11,.sc (.k (.i .u32))),(12,.sc (.k (.i .u32))),(13,.sc (.k (.i .u32)))])],[]⟩)] [] Tryz.func209 (by kernel_rfl) (by kernel_rfl) (Lk λ_ _=>by kernel_rfl)
def jO (sA:List MV)(b:MV):Option MV:=gL b λb1=>
 gC sA λm lF=>
 gH .u32 6 m λstate=>
 Af lF λleft long=>
 bM b1 λlen=>
 aY (fZ 1 b1)<|
 bM left λdi=>
 bM b1 λgM=>
 aY (decide ((di+gM) *1<=2^46))<|
 bd (Loop (λfP=>
 gC fP λm3 ll=>
 gH .u32 6 m3 λx=>
 Af ll λx1 x2=>
 bM x1 λqu=>
 bT (decide ((64:Int)<=(qu:Int))) (
 bM x1 λCp=>
 aY (decide ((0:Int)<=0/\(0:Int)<=64/\(64:Int)<=(Cp:Int)))<|
 bd (qE [.h .u32 6 x,.list x1,.i .i64 x2] (.list (By (sh 0) (BY (sh 64) x1)))) λrA=>
 gW rA λx3 ls=>
 gC ls λm6 qw=>
 gH .u32 6 m6 λHj=>
 Af qw λSw So=>
 aY (fZ 1 Sw)<|
 bM Sw λzR=>
 aY (decide ((0:Int)<=64/\(64:Int)<=(zR:Int)/\(zR:Int)<=(zR:Int)))<|
 some (.inl [.h .u32 6 Hj,.list (By (sh 64) (BY (sh (zR:Int)) Sw)),.i .i64 So])) (
 some (.inr (2,[.h .u32 6 x,.list x1,.i .i64 x2])))) [.h .u32 6 state,.list (left++b1),.i .i64 (aQ .i64 (long+(len:Int)))]) λp=>
 aY (AI p.1 2)<|
 gC p.2 λm9 BW=>
 gH .u32 6 m9 λx4=>
 Af BW λx5 x6=>
 some (.gk (.cG []) [.h .u32 6 x4,.list x5,.i .i64 x6])
def s9:GT:=bo 158 (cl2 jO) CV
theorem vA:cA Tryz.prog TD s9:=ac5 CW 0 Xk Fm [] [(0,1000000)] 47 [21] [] [] [(4,[0,1,2,3,4,5,6,7,8])] [] [] [(3,⟨[0],[],[(1000000,.box [.k (.h .u32 6),.k .l,.k (.i .i64)])],[(2,[(1000000,.box [.k (.h .u32 6),.k .l,.k (.i .i64)])])],[]⟩)] [] Tryz.func158 (by kernel_rfl) (by kernel_rfl) (Lk λ_ _=>by kernel_rfl)
def gW1:GT:=Vp 209 s9
theorem Sx:SG gW1:=vA.alt Zg
def ud (a:List MV)(a1:MV):Option MV:=gL a1 λCR=>
 gC a λm lF=>
 gH .u32 6 m λx=>
 gN lF<|
 bd (jN (.list CR)) λrA=>
 gH .u32 62 rA λx1=>
 bd (pz) λcT=>
 gR cT λm1=>
 aY (decide ((0:Int)<=0/\(0:Int)<8))<|
 aY (decide ((0:Int)<=1/\(1:Int)<8))<|
 aY (decide ((0:Int)<=2/\(2:Int)<8))<|
 aY (decide ((0:Int)<=3/\(3:Int)<8))<|
 aY (decide ((0:Int)<=4/\(4:Int)<8))<|
 aY (decide ((0:Int)<=5/\(5:Int)<8))<|
 aY (decide ((0:Int)<=6/\(6:Int)<8))<|
 aY (decide ((0:Int)<=7/\(7:Int)<8))<|
 bd (Loop (λlk=>
 gC lk λm2 sZ=>
 gI .u32 m2 λx2=>
 gC sZ λm3 fP=>
 gI .u32 m3 λx3=>
 gC fP λm4 ll=>
 gI .u32 m4 λx4=>
 gC ll λm5 yl=>
 gI .u32 m5 λx5=>
 gC yl λm6 qv=>
 gI .u32 m6 λx6=>
 gC qv λm7 qw=>
 gI .u32 m7 λx7=>
 gC qw λm8 mF=>
 gI .u32 m8 λx8=>
 Pm .u32 .i64 mF λx9 Ah=>
 bT (decide (Ah<64)) (
 gP m1 λcs=>
 gC cs λm11 sM=>
 gN sM<|
 gH .u32 62 m11 λJ6=>
 aY (decide ((0:Int)<=Ah/\Ah<64))<|
 aY (decide ((0:Int)<=Ah/\Ah<64))<|
 bd (cP (.i .u32 x6) (.i .i64 6)) λfL=>
 gI .u32 fL λHD=>
 bd (cP (.i .u32 x6) (.i .i64 11)) λmW=>
 gI .u32 mW λzl=>
 bd (cP (.i .u32 x6) (.i .i64 25)) λsF=>
 gI .u32 sF λSn=>
 bd (cP (.i .u32 x2) (.i .i64 2)) λxy=>
 gI .u32 xy λZl=>
 bd (cP (.i .u32 x2) (.i .i64 13)) λxz=>
 gI .u32 xz λx16=>
 bd (cP (.i .u32 x2) (.i .i64 22)) λy9=>
 gI .u32 y9 λx17=>
 some (.inl [.i .u32 (aQ .u32 ((aQ .u32 ((aQ .u32 ((aQ .u32 ((aQ .u32 (x9+(bn .u32 (bn .u32 HD zl) Sn)))+(bn .u32 x8 (cH .u32 x6 (bn .u32 x7 x8)))))+(J6.getD (sh Ah) 0)))+(x1.getD (sh Ah) 0)))+(aQ .u32 ((bn .u32 (bn .u32 Zl x16) x17)+(bn .u32 (bn .u32 (cH .u32 x2 x3) (cH .u32 x2 x4)) (cH .u32 x3 x4)))))),.i .u32 x2,.i .u32 x3,.i .u32 x4,.i .u32 (aQ .u32 (x5+(aQ .u32 ((aQ .u32 ((aQ .u32 ((aQ .u32 (x9+(bn .u32 (bn .u32 HD zl) Sn)))+(bn .u32 x8 (cH .u32 x6 (bn .u32 x7 x8)))))+(J6.getD (sh Ah) 0)))+(x1.getD (sh Ah) 0))))),.i .u32 x6,.i .u32 x7,.i .u32 x8,.i .i64 (aQ .i64 (Ah+1))])) (
 some (.inr (2,[.i .u32 x2,.i .u32 x3,.i .u32 x4,.i .u32 x5,.i .u32 x6,.i .u32 x7,.i .u32 x8,.i .u32 x9])))) [.i .u32 (x.getD (sh 0) 0),.i .u32 (x.getD (sh 1) 0),.i .u32 (x.getD (sh 2) 0),.i .u32 (x.getD (sh 3) 0),.i .u32 (x.getD (sh 4) 0),.i .u32 (x.getD (sh 5) 0),.i .u32 (x.getD (sh 6) 0),.i .u32 (x.getD (sh 7) 0),.i .i64 0]) λp=>
 aY (AI p.1 2)<|
 gC p.2 λm12 Sh=>
 gI .u32 m12 λx18=>
 gC Sh λm13 Jo=>
 gI .u32 m13 λx19=>
 gC Jo λm14 Sq=>
 gI .u32 m14 λx20=>
 gC Sq λm15 Sr=>
 gI .u32 m15 λx21=>
 gC Sr λm16 Ss=>
 gI .u32 m16 λx22=>
 gC Ss λVJ Jg=>
 gI .u32 VJ λx23=>
 Pm .u32 .u32 Jg λx24 OD=>
 bd (Loop (λJs=>
 gC Js λm20 Sl=>
 gI .i64 m20 λLp=>
 gC Sl λm21 Su=>
 gH .u32 6 m21 λx27=>
 gN Su<|
 bT (decide (Lp<8)) (
 aY (decide ((0:Int)<=Lp/\Lp<8))<|
 aY (decide ((0:Int)<=Lp/\Lp<8))<|
 aY (decide ((0:Int)<=Lp/\Lp<8))<|
 some (.inl [.i .i64 (aQ .i64 (Lp+1)),.h .u32 6 (x27.set (sh Lp) (aQ .u32 ((x27.getD (sh Lp) 0)+([x18,x19,x20,x21,x22,x23,x24,OD].getD (sh Lp) 0))))])) (
 some (.inr (4,[.h .u32 6 x27])))) [.i .i64 0,.h .u32 6 x]) λp1=>
 aY (AI p1.1 4)<|
 gC p1.2 λm22 Sv=>
 gH .u32 6 m22 λx28=>
 gN Sv<|
 some (.gk (.cG []) [.h .u32 6 x28])
def FG:GT:=bo 209 (cl2 ud) gW1
theorem Ef:SG FG:=fnC Sx 0 MM MM [] [(0,1000000)] 141 [] [] [] [(1,[0,1,2,3,4,5,6,7,8,9,10,11,12,13,14,15,16,17,18,19,20,21,22,23,24,25,26,27,28,29,30,31,32,33,34,35,36,37,38,39]),(5,[0,1,3,6,10,11,12,13,14,15,16,18,19,20,21,22,24,25,26,2,4,5,7,8,9,17,23,27,28]),(12,[0,1,2,3,4,5,6,7,8,9])] [] [] [(10,⟨[0,126],[],[(127,.sc (.k (.i .i64))),(1000000,.box [.k (.h .u32 6)])],[(4,[(1000000,.box [.k (.h .u32 6)])])],[]⟩),(3,⟨[0,4,5,1000000],[],[(6,.sc (.k (.i .u32))),(7,.sc (.k (.i .u32))),(8,.sc (.k (.i .u32))),(9,.sc (.k (.i .u32))),(10,.sc (.k (.i .u32))),(11,.sc (.k (.i .u32))),(12,.sc (.k (.i .u32))),(13,.sc (.k (.i .u32))),(54,.sc (.k (.i .i64)))],[(2,[(6,.sc (.k (.i .u32))),(7,.sc (.k (.i .u32))),(8,.sc (.k (.i .u32))),(9,.sc (.k (.i .u32))),(10,.sc (.k (.i .u32))),(11,.sc (.k (.i .u32))),(12,.sc (.k (.i .u32))),(13,.sc (.k (.i .u32)))])],[]⟩)] [] Tryz.func209 (by kernel_rfl) (by kernel_rfl) (Lk λ_ _=>by kernel_rfl)
def lJ (sA:List MV):Option MV:=gC sA λm lF=>
 gH .u32 6 m λstate=>
 Af lF λleft long=>
 bM left λlen=>
 bM left λdi=>
 aY (decide ((len:Int)=(left.length:Int)/\(di:Int)=(left.length:Int)))<|
 bd (Ak (.i .i64 long)) λrA=>
 gL rA λx=>
 aY (fZ 1 x)<|
 aY (fZ 1 left)<|
 bM left λgM=>
 bM x λqu=>
 aY (decide (0<qu/\(gM+qu) *1<=2^46))<|
 bd (Loop (λfP=>
 gC fP λm3 ll=>
 gH .u32 6 m3 λHj=>
 gC ll λm4 yl=>
 gL m4 λOE=>
 gN yl<|
 bM OE λCp=>
 bT (decide ((0:Int)<(Cp:Int))) (
 bM OE λzR=>
 aY (decide ((0:Int)<=0/\(0:Int)<=64/\(64:Int)<=(zR:Int)))<|
 bd (ud [.h .u32 6 Hj] (.list (By (sh 0) (BY (sh 64) OE)))) λcT=>
 gW cT λx1 ls=>
 gC ls λm5 qv=>
 gH .u32 6 m5 λx2=>
 gN qv<|
 aY (fZ 1 OE)<|
 bM OE λCB=>
 aY (decide ((0:Int)<=64/\(64:Int)<=(CB:Int)/\(CB:Int)<=(CB:Int)))<|
 some (.inl [.h .u32 6 x2,.list (By (sh 64) (BY (sh (CB:Int)) OE))])) (
 some (.inr (2,[.h .u32 6 Hj])))) [.h .u32 6 state,.list (left++x)]) λp=>
 aY (AI p.1 2)<|
 gC p.2 λm6 qw=>
 gH .u32 6 m6 λZn=>
 gN qw<|
 bd (Loop (λmF=>
 Af mF λout x3=>
 bT (decide (x3<8)) (
 aY (decide ((0:Int)<=x3/\x3<8))<|
 bd (s8 (.fresh out) (.i .u64 (aQ .u64 (Zn.getD (sh x3) 0))) (.i .i64 4)) λfL=>
 gF fL λxs=>
 some (.inl [.list xs,.i .i64 (aQ .i64 (x3+1))])) (
 some (.inr (4,[.list out])))) [.list ([]:List MV),.i .i64 0]) λp1=>
 aY (AI p1.1 4)<|
 gC p1.2 λm9 sM=>
 gL m9 λpu=>
 gN sM<|
 bM pu λagT=>
 aY (decide (32<=agT))<|
 yw .u8 pu λns=>
 some (.gk (.h .u8 30 (ns.take 32)) [.h .u32 6 state,.list left,.i .i64 long])
def jP:GT:=bo 159 (cl1 lJ) FG
theorem pA:SG jP:=fnC Ef 0 Fm Fm [] [(0,1000000)] 56 [35] [] [] [(4,[0,1,2,3,4,5,6,7,8,9,10,11,12,13,14,15,16,17,18,19,20,21])] [] [] [(10,⟨[2,44,1000000],[],[(5,.sc (.own 51 5 false)),(45,.sc (.k (.i .i64)))],[(4,[(5,.sc (.own 51 5 false))])],[]⟩),(5,⟨[2,1000000],[],[(3,.box [.k (.h .u32 6)]),(4,.sc (.k .l))],[(2,[(3,.box [.k (.h .u32 6)])])],[]⟩)] [] Tryz.func159 (by kernel_rfl) (by kernel_rfl) (Zh λ_=>by kernel_rfl)
def adf:Oh:=⟨239,152,113,296,5,157,208,158,159⟩
def Zo:Ctx:=J3 jP [] 10 [] [] [] [] [] [] [] []
theorem adg:MF Tryz.prog Zo jP adf 96 Tryz.f96 Tryz.f157 (λk=>k) (dM Tryz.f96 dN) (dM Tryz.f157 dN) where
 hT:=eP
 key:=λ_=>rfl
 snd:=λf ms r h=>cq.ez (c:=cx) (c':=Zo) ⟨rfl,rfl,rfl,rfl,rfl,rfl,rfl,rfl,rfl⟩ (pA.all f ms r h)
 gvs:=⟨by kernel_rfl,by kernel_rfl,by kernel_rfl,by kernel_rfl⟩
 sig:=⟨by kernel_rfl,by kernel_rfl⟩
 tyE:=⟨dD 5,by kernel_rfl⟩
 TB:=⟨dD 113,by kernel_rfl,by kernel_rfl⟩
 pos:=Tryz.func96
 name:=by kernel_rfl
 tmps:=by kernel_rfl
 res:=by kernel_rfl
 body:=by kernel_rfl
 ops:=by constructor<;>exact ⟨by kernel_rfl,by kernel_rfl,by kernel_rfl⟩
 pos':=Tryz.func157
 Xf:=by kernel_rfl
 Xg:=by kernel_rfl
 acD:=by kernel_rfl
 RU:=by kernel_rfl
 BL:=by constructor<;>exact ⟨by kernel_rfl,by kernel_rfl,by kernel_rfl⟩
 bld:=λ_ _ _ _ _ _ _ _=>by kernel_rfl
def An (a:MV):Option MV:=gL a λxs=>
 bd ub λs=>
 gH .u32 6 s λs=>
 bd (jO [.h .u32 6 s,.list [],.i .i64 0] (.list xs)) λr=>
 gW r λ_ ls=>
 gC ls λm0 ls=>
 gH .u32 6 m0 λs1=>
 gC ls λm1 ls=>
 gL m1 λleft=>
 gC ls λm2 ls=>
 gI .i64 m2 λlong=>
 gN ls<|
 bd (lJ [.h .u32 6 s1,.list left,.i .i64 long]) λq=>
 gW q λh _=>
 gH .u8 30 h λh=>some (.h .u8 30 h)
def MZ:GT:=bo 96 (je An) jP
theorem JC:SG MZ:=pA.add λf ms r hk hr=>by have hk:f=96:=hk;subst hk;exact cq.ez (c:=Zo) (c':=cx) ⟨rfl,rfl,rfl,rfl,rfl,rfl,rfl,rfl,rfl⟩ (YY adg (ca (B:=RV jP adf) (λ_=>by kernel_rfl) hr))
def lK (sA:MV):Option MV:=gS sA λyf=>
 bd (An (.list (pL yf))) λrA=>
 gH .u8 30 rA λx=>
 some (.h .u8 30 x)
def xi:GT:=bo 49 (je lK) MZ
theorem yp:SG xi:=J5 JC [] 6 [] [] [] Tryz.func49 (by kernel_rfl) (ca (λ_=>by kernel_rfl))
def mS (a a1:MV):Option MV:=gL a λa2=>
 gS a1 λCR=>
 bd (
 bd (tV (.list a2)) λrA=>
 gB rA λx=>
 bT (!x) (
 some [.b true]) (
 some [.b (decide ((6000:Int)<(CR.length:Int)))])) λvs=>
 gC vs λm lF=>
 gB m λx1=>
 gN lF<|
 bT x1 (
 bd (pv) λcT=>
 gB cT λx2=>
 some (.b x2)) (
 bd (lG (.list a2)) λfL=>
 gT fL λnT=>
 gC nT λm1 lk=>
 gS m1 λx3=>
 gC lk λm2 sZ=>
 gI .i64 m2 λx4=>
 gN sZ<|
 bd (xb (.list a2)) λmW=>
 gL mW λx5=>
 bd (qA (.list x5)) λsF=>
 gT sF λr9=>
 gC r9 λm3 fP=>
 gS m3 λx6=>
 gC fP λm4 ll=>
 gI .i64 m4 λx7=>
 gN ll<|
 bd (lH (.s CR)) λxy=>
 gT xy λvs3=>
 Af vs3 λx8 x9=>
 bd (qB (.s CR)) λxz=>
 gT xz λvs4=>
 Af vs4 λAh J6=>
 bd (
 bd (pv) λy9=>
 gB y9 λHD=>
 bT HD (
 bT (decide (x3=x6)) (
 bT (decide (x4=x7)) (
 bd (xb (.list x8)) λPl=>
 gL Pl λzl=>
 bd (xa (.list zl) (.list Ah)) λR9=>
 gB R9 λSn=>
 bT Sn (
 bT (decide (x9=J6)) (
 bd (lK (.s CR)) λBP=>
 gH .u8 30 BP λZl=>
 bd (qD (.s CR)) λVs=>
 gH .u8 30 Vs λx16=>
 some [.b (decide (Zl=x16))]) (
 some [.b false])) (
 some [.b false])) (
 some [.b false])) (
 some [.b false])) (
 some [.b false])) λvs5=>
 gC vs5 λm9 BV=>
 gB m9 λx17=>
 gN BV<|
 some (.b x17))
def CX:GT:=bo 11 (oc mS) xi
theorem vB:SG CX:=J5 yp [] 72 [(7,⟨[1,5,6,7,8,9,10,11,12],[],[],[(0,[(4,.sc (.k .b))])],[]⟩),(1,⟨[0,1],[],[],[(0,[(20,.sc (.k .b))])],[]⟩)] [] [] Tryz.func11 (by kernel_rfl) (dB (λ_ _=>by kernel_rfl))
end
end Dn.S
