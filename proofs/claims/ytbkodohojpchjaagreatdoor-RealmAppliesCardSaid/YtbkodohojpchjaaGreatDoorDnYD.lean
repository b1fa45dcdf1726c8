import Derived.Test.YtbkodohojpchjaaGreatDoorDnYTab
import Derived.Test.YtbkodohojpchjaaGreatDoorDnB
import Derived.Test.YtbkodohojpchjaaGreatDoorDnC
import Derived.Test.YtbkodohojpchjaaGreatDoorDnYT
import Derived.KernelRfl
import Derived.Test.YtbkodohojpchjaaGreatDoorProg
/-
  The functions, on plain values, and their contracts. Conditions: none.
-/
set_option linter.unusedVariables false
set_option linter.unusedSimpArgs false
open Go.IntKind renaming wrap→c8,bits→IN
open Nat renaming beq→sh,le_of_ble_eq_true→AT,eq_of_beq_eq_true→IS
open Int renaming toNat→AI,fdiv→IT
open Go.Extern.SlicesOverlaps renaming overlaps→AS
open List renaming drop→By,take→BY
open Go.Shelf renaming Ren→No
open Go.Op renaming bytesLess→OF
open Go.Proofs.Lays renaming n146→aaa,n160→aaf,n151→aai
open Go Dn Go.Proofs
set_option maxRecDepth 100000
namespace Dn.S
noncomputable section
theorem po:lV Tryz.prog (zf PV):=adE (by kernel_rfl)
theorem Vl:Sw Tryz.prog (zf PV):=WE (by kernel_rfl)
theorem yl:Tryz.prog.follows .mixedOrders=true:=by kernel_rfl
def oIB {R:Type}(k0:IntKind)(l0:List MV)(K:Int->Bool->Option R):Option R:=gC l0 λm0 l1=>gI k0 m0 λx0=>gC l1 λm1 l2=>gB m1 λx1=>gN l2<|K x0 x1
def oII {R:Type}(k0 k1:IntKind)(l0:List MV)(K:Int->Int->Option R):Option R:=gC l0 λm0 l1=>gI k0 m0 λx0=>gC l1 λm1 l2=>gI k1 m1 λx1=>gN l2<|K x0 x1
def aef {R:Type}(k0 k1 k2:IntKind)(l0:List MV)(K:Int->Int->Int->Option R):Option R:=gC l0 λm0 l1=>gI k0 m0 λx0=>gC l1 λm1 l2=>gI k1 m1 λx1=>gC l2 λm2 l3=>gI k2 m2 λx2=>gN l3<|K x0 x1 x2
def DV {R:Type}(k0 k1 k2 k4:IntKind)(l0:List MV)(K:Int->Int->Int->List UInt8->Int->List MV->Option R):Option R:=gC l0 λm0 l1=>gI k0 m0 λx0=>gC l1 λm1 l2=>gI k1 m1 λx1=>gC l2 λm2 l3=>gI k2 m2 λx2=>gC l3 λm3 l4=>gS m3 λx3=>gC l4 λm4 l5=>gI k4 m4 λx4=>gC l5 λm5 l6=>gL m5 λx5=>gN l6<|K x0 x1 x2 x3 x4 x5
def Mo {R:Type}(k0 k1 k2 k5 k6 k7:IntKind)(l0:List MV)(K:Int->Int->Int->List UInt8->List UInt8->Int->Int->Int->Option R):Option R:=gC l0 λm0 l1=>gI k0 m0 λx0=>gC l1 λm1 l2=>gI k1 m1 λx1=>gC l2 λm2 l3=>gI k2 m2 λx2=>gC l3 λm3 l4=>gS m3 λx3=>gC l4 λm4 l5=>gS m4 λx4=>gC l5 λm5 l6=>gI k5 m5 λx5=>gC l6 λm6 l7=>gI k6 m6 λx6=>gC l7 λm7 l8=>gI k7 m7 λx7=>gN l8<|K x0 x1 x2 x3 x4 x5 x6 x7
def oIL {R:Type}(k0:IntKind)(l0:List MV)(K:Int->List MV->Option R):Option R:=gC l0 λm0 l1=>gI k0 m0 λx0=>gC l1 λm1 l2=>gL m1 λx1=>gN l2<|K x0 x1
def O6 {R:Type}(l0:List MV)(K:List MV->Bool->Option R):Option R:=gC l0 λm0 l1=>gL m0 λx0=>gC l1 λm1 l2=>gB m1 λx1=>gN l2<|K x0 x1
def oLI {R:Type}(k1:IntKind)(l0:List MV)(K:List MV->Int->Option R):Option R:=gC l0 λm0 l1=>gL m0 λx0=>gC l1 λm1 l2=>gI k1 m1 λx1=>gN l2<|K x0 x1
def I3 {R:Type}(k1:IntKind)(l0:List MV)(K:List MV->Int->List MV->List MV->List MV->Option R):Option R:=gC l0 λm0 l1=>gL m0 λx0=>gC l1 λm1 l2=>gI k1 m1 λx1=>gC l2 λm2 l3=>gL m2 λx2=>gC l3 λm3 l4=>gL m3 λx3=>gC l4 λm4 l5=>gL m4 λx4=>gN l5<|K x0 x1 x2 x3 x4
def ny {R:Type}(k1 k5 k6 k7 k9 k11:IntKind)(l0:List MV)(K:List MV->Int->List MV->List MV->List MV->Int->Int->Int->List UInt8->Int->List MV->Int->Option R):Option R:=gC l0 λm0 l1=>gL m0 λx0=>gC l1 λm1 l2=>gI k1 m1 λx1=>gC l2 λm2 l3=>gL m2 λx2=>gC l3 λm3 l4=>gL m3 λx3=>gC l4 λm4 l5=>gL m4 λx4=>gC l5 λm5 l6=>gI k5 m5 λx5=>gC l6 λm6 l7=>gI k6 m6 λx6=>gC l7 λm7 l8=>gI k7 m7 λx7=>gC l8 λm8 l9=>gS m8 λx8=>gC l9 λm9 l10=>gI k9 m9 λx9=>gC l10 λN3 l11=>gL N3 λpq=>gC l11 λKX l12=>gI k11 KX λrn=>gN l12<|K x0 x1 x2 x3 x4 x5 x6 x7 x8 x9 pq rn
def kY {R:Type}(k1 k5 k6 k7 k9:IntKind)(l0:List MV)(K:List MV->Int->List MV->List MV->List MV->Int->Int->Int->List UInt8->Int->List MV->List MV->Option R):Option R:=gC l0 λm0 l1=>gL m0 λx0=>gC l1 λm1 l2=>gI k1 m1 λx1=>gC l2 λm2 l3=>gL m2 λx2=>gC l3 λm3 l4=>gL m3 λx3=>gC l4 λm4 l5=>gL m4 λx4=>gC l5 λm5 l6=>gI k5 m5 λx5=>gC l6 λm6 l7=>gI k6 m6 λx6=>gC l7 λm7 l8=>gI k7 m7 λx7=>gC l8 λm8 l9=>gS m8 λx8=>gC l9 λm9 l10=>gI k9 m9 λx9=>gC l10 λN3 l11=>gL N3 λpq=>gC l11 λKX l12=>gL KX λrn=>gN l12<|K x0 x1 x2 x3 x4 x5 x6 x7 x8 x9 pq rn
def dn {R:Type}(k1 k5 k6 k7 k10 k11 k12 k13 k14 k15 k17:IntKind)(l0:List MV)(K:List MV->Int->List MV->List MV->List MV->Int->Int->Int->List UInt8->List UInt8->Int->Int->Int->Int->Int->Int->List UInt8->Int->List MV->List MV->Option R):Option R:=gC l0 λm0 l1=>gL m0 λx0=>gC l1 λm1 l2=>gI k1 m1 λx1=>gC l2 λm2 l3=>gL m2 λx2=>gC l3 λm3 l4=>gL m3 λx3=>gC l4 λm4 l5=>gL m4 λx4=>gC l5 λm5 l6=>gI k5 m5 λx5=>gC l6 λm6 l7=>gI k6 m6 λx6=>gC l7 λm7 l8=>gI k7 m7 λx7=>gC l8 λm8 l9=>gS m8 λx8=>gC l9 λm9 l10=>gS m9 λx9=>gC l10 λN3 l11=>gI k10 N3 λpq=>gC l11 λKX l12=>gI k11 KX λrn=>gC l12 λm12 l13=>gI k12 m12 λzK=>gC l13 λTt l14=>gI k13 Tt λzw=>gC l14 λm14 l15=>gI k14 m14 λDW=>gC l15 λm15 l16=>gI k15 m15 λCU=>gC l16 λm16 l17=>gS m16 λEU=>gC l17 λTu l18=>gI k17 Tu λFt=>gC l18 λm18 l19=>gL m18 λFu=>gC l19 λm19 l20=>gL m19 λGV=>gN l20<|K x0 x1 x2 x3 x4 x5 x6 x7 x8 x9 pq rn zK zw DW CU EU Ft Fu GV
def Yp {R:Type}(l0:List MV)(K:List MV->List MV->Option R):Option R:=gC l0 λm0 l1=>gL m0 λx0=>gC l1 λm1 l2=>gL m1 λx1=>gN l2<|K x0 x1
def alX {R:Type}(k2:IntKind)(l0:List MV)(K:List MV->List MV->Int->Option R):Option R:=gC l0 λm0 l1=>gL m0 λx0=>gC l1 λm1 l2=>gL m1 λx1=>gC l2 λm2 l3=>gI k2 m2 λx2=>gN l3<|K x0 x1 x2
def oSI {R:Type}(k1:IntKind)(l0:List MV)(K:List UInt8->Int->Option R):Option R:=gC l0 λm0 l1=>gS m0 λx0=>gC l1 λm1 l2=>gI k1 m1 λx1=>gN l2<|K x0 x1
def alY {R:Type}(k1:IntKind)(l0:List MV)(K:List UInt8->Int->Bool->Option R):Option R:=gC l0 λm0 l1=>gS m0 λx0=>gC l1 λm1 l2=>gI k1 m1 λx1=>gC l2 λm2 l3=>gB m2 λx2=>gN l3<|K x0 x1 x2
def aaM {R:Type}(k1 k3:IntKind)(l0:List MV)(K:List UInt8->Int->Bool->Int->List UInt8->Option R):Option R:=gC l0 λm0 l1=>gS m0 λx0=>gC l1 λm1 l2=>gI k1 m1 λx1=>gC l2 λm2 l3=>gB m2 λx2=>gC l3 λm3 l4=>gI k3 m3 λx3=>gC l4 λm4 l5=>gS m4 λx4=>gN l5<|K x0 x1 x2 x3 x4
def agw {R:Type}(k2 k3:IntKind)(l0:List MV)(K:List UInt8->List UInt8->Int->Int->Option R):Option R:=gC l0 λm0 l1=>gS m0 λx0=>gC l1 λm1 l2=>gS m1 λx1=>gC l2 λm2 l3=>gI k2 m2 λx2=>gC l3 λm3 l4=>gI k3 m3 λx3=>gN l4<|K x0 x1 x2 x3
abbrev fI {R:Type}:= @I3 R .i64
abbrev fa {R:Type}:= @agw R .i64 .i64
abbrev vS {R:Type}:= @alY R .i64
abbrev cv {R:Type}:= @DV R .i64 .i64 .i64 .i64
abbrev gU {R:Type}:= @Mo R .i64 .i64 .i64 .i64 .i64 .i64
abbrev jSI {R:Type}:= @oSI R .i64
abbrev Gm {R:Type}:= @oLI R .i64
abbrev Hs {R:Type}:= @oIL R .i64
abbrev vT {R:Type}:= @aef R .i64 .i64 .i64
abbrev KY {R:Type}:= @alX R .i64
abbrev jII {R:Type}:= @oII R .i64 .i64
abbrev Vm {R:Type}:= @oIB R .i64
abbrev bj {R:Type}:= @dn R .i64 .i64 .i64 .i64 .i64 .i64 .i64 .i64 .i64 .i64 .i64
abbrev N4 {R:Type}:= @aaM R .i64 .i64
@[reducible] def bR (x0 : Int)(x1 : Int)(x2 : Int)(x3 : List UInt8)(x4 : Int)(x5 : List MV) : List MV := [.i .i64 x0, .i .i64 x1, .i .i64 x2, .s x3, .i .i64 x4, .list x5]
@[reducible] def dB (x0 : Int)(x1 : Int)(x2 : Int)(x3 : List UInt8)(x4 : List UInt8)(x5 : Int)(x6 : Int)(x7 : Int) : List MV := [.i .i64 x0, .i .i64 x1, .i .i64 x2, .s x3, .s x4, .i .i64 x5, .i .i64 x6, .i .i64 x7]
@[reducible] def cD (x0 : List MV)(x1 : Int)(x2 : List MV)(x3 : List MV)(x4 : List MV) : List MV := [.list x0, .i .i64 x1, .list x2, .list x3, .list x4]
@[reducible] def sH (x0 : List MV)(x1 : Int)(x2 : List MV)(x3 : List MV)(x4 : List MV)(x5 : Int) : List MV := [.list x0, .i .i64 x1, .list x2, .list x3, .list x4, .i .i64 x5]
@[reducible] def iJ (x0 : List MV)(x1 : Int)(x2 : List MV)(x3 : List MV)(x4 : List MV)(x5 : Int)(x6 : Int)(x7 : Int)(x8 : List UInt8)(x9 : Int)(pq : List MV)(rn : Int) : List MV := [.list x0, .i .i64 x1, .list x2, .list x3, .list x4, .i .i64 x5, .i .i64 x6, .i .i64 x7, .s x8, .i .i64 x9, .list pq, .i .i64 rn]
@[reducible] def fc (x0 : List MV)(x1 : Int)(x2 : List MV)(x3 : List MV)(x4 : List MV)(x5 : Int)(x6 : Int)(x7 : Int)(x8 : List UInt8)(x9 : Int)(pq : List MV)(rn : List MV) : List MV := [.list x0, .i .i64 x1, .list x2, .list x3, .list x4, .i .i64 x5, .i .i64 x6, .i .i64 x7, .s x8, .i .i64 x9, .list pq, .list rn]
@[reducible] def az (x0 : List MV)(x1 : Int)(x2 : List MV)(x3 : List MV)(x4 : List MV)(x5 : Int)(x6 : Int)(x7 : Int)(x8 : List UInt8)(x9 : List UInt8)(pq : Int)(rn : Int)(zK : Int)(zw : Int)(DW : Int)(CU : Int)(EU : List UInt8)(Ft : Int)(Fu : List MV)(GV : List MV) : List MV := [.list x0, .i .i64 x1, .list x2, .list x3, .list x4, .i .i64 x5, .i .i64 x6, .i .i64 x7, .s x8, .s x9, .i .i64 pq, .i .i64 rn, .i .i64 zK, .i .i64 zw, .i .i64 DW, .i .i64 CU, .s EU, .i .i64 Ft, .list Fu, .list GV]
@[reducible] def fq (x0 : List UInt8)(x1 : List UInt8)(x2 : Int)(x3 : Int) : List MV := [.s x0, .s x1, .i .i64 x2, .i .i64 x3]
def Vn:List (Nat×se)->Nat->se
 |[],_=>default
 |(k,s)::r,t=>bif sh k t then s else Vn r t
def aaN:List (Nat×List Nat)->Nat->List Nat
 |[],_=>[]
 |(k,s)::r,t=>bif sh k t then s else aaN r t
def aaO:List (Nat×Nat)->Nat->Nat
 |[],_=>0
 |(k,s)::r,t=>bif sh k t then s else aaO r t
def kk (n:Nat):Nat:=n
def gv (n:Nat):Bool:=bX [63,218,223,225,227,105,106,107,108,109,110,111,112,113,114,115,118,171,179] n
def frs (n:Nat):Bool:=bX [61,63,116,117,194,218,219,223,225,226,227,92,134,135,192] n
def agz:List (Nat×Nat):=[(61,57),(63,57),(116,75),(117,75),(194,9),(218,98),(219,98),(223,98),(225,126),(226,126),(227,126),(92,5),(134,5),(135,5),(192,5)]
def Vo:List (Nat×FloatKind)->Nat->Option FloatKind
 |[],_=>none
 |(k,s)::r,t=>bif sh k t then some s else Vo r t
def aaP:List (Nat×FloatKind):=[]
theorem Vp: ∀t k,Vo aaP t=some k->Tryz.prog.underlying t=some (.float k):=by intro t k h;cases h
def aaQ:List (Nat×(Nat×Bool)):=[(222,(75,true))]
def aaR:List (Nat×(Nat×List LK))->Nat->Option (Nat×List LK)
 |[],_=>none
 |(k,s)::r,t=>bif sh k t then some s else aaR r t
abbrev kg:List LK:=[.k (.l),.k (.i .i64),.k (.l),.k (.l),.k (.l),.k (.i .i64),.k (.i .i64),.k (.i .i64),.k (.s),.k (.s),.k (.i .i64),.k (.i .i64),.k (.i .i64),.k (.i .i64),.k (.i .i64),.k (.i .i64),.k (.s),.k (.i .i64),.k (.l),.own 2000019 77 false]
abbrev Vq:List LK:=[.own 2000000 79 false]
def aaS:List (Nat×(Nat×List LK)):=[(105,(0,kg)),(106,(0,kg)),(107,(0,kg)),(108,(0,kg)),(109,(0,kg)),(110,(0,kg)),(111,(0,kg)),(112,(0,kg)),(113,(0,kg)),(114,(0,kg)),(115,(0,kg)),(118,(2,Vq)),(171,(0,kg)),(179,(0,kg))]
def dl (n:Nat):Bool:=bX [117] n
def cx:Ctx:=⟨zf PV,kk,λ_ _=>none,gv,frs,aaO agz,aaR aaS,[],0,[],[],λ_=>[],Vo aaP,IA aaQ,λ_=>[],λ_=>default,λ_=>default,λ_=>default,dl,[]⟩
def W8 (g:Nat->List MV->Option MV)(par:List (Nat×Nat))(n:Nat)(bs fl:List Nat)(fz ord:List (Nat×List Nat))(HI Hf FW:List (Nat×se))(dyn:List Nat):Ctx:=⟨zf PV,kk,g,gv,frs,aaO agz,aaR aaS,par,n,bs,fl,aaN fz,Vo aaP,IA aaQ,aaN ord,Vn HI,Vn Hf,Vn FW,dl,dyn⟩
theorem Vr:Fb Tryz.prog cx:=S2 (l:=aaQ) (by kernel_rfl) (λ_ _ h=>h)
def kr (t:Nat):TI:=match zf PV t with|some I=>I|none=>⟨false,0,0,[],[],[],[],0,[]⟩
theorem tv9:cx.tv 9=some (kr 9):=by kernel_rfl
theorem air:cx.tv 22=some (kr 22):=by kernel_rfl
theorem ais:cx.tv 25=some (kr 25):=by kernel_rfl
theorem apC:cx.tv 28=some (kr 28):=by kernel_rfl
theorem alZ:cx.tv 31=some (kr 31):=by kernel_rfl
theorem al0:cx.tv 57=some (kr 57):=by kernel_rfl
theorem apD:cx.tv 75=some (kr 75):=by kernel_rfl
theorem ait:cx.tv 98=some (kr 98):=by kernel_rfl
theorem aaT:cx.tv 126=some (kr 126):=by kernel_rfl
theorem aei:NH Tryz.prog cx 117 75:=by
 have hE:cx.tv 75=some (kr 75):=by kernel_rfl
 refine aed (P:=Tryz.prog) (f:=117) (fi:=182) (t:=28) (ti:=3) (tb:=4) (fu:=191) (el:=75) (fn:=Tryz.f117) (fni:=Tryz.f182) (r:=(λk=>(([0,1,2,3,4,5,7,8,9,10,6,11,12]:List Nat)[k]?).getD 0)) (ri:=(λk=>(([0,1,2,3,4,5,6,7]:List Nat)[k]?).getD 0)) (o:=jP Tryz.f117 jQ) (oi:=jP Tryz.f182 jQ) ⟨Tryz.func117,by kernel_rfl,by kernel_rfl,by kernel_rfl,by kernel_rfl,?_,by kernel_rfl⟩ ⟨Tryz.func182,by kernel_rfl,by kernel_rfl,by kernel_rfl,by kernel_rfl,?_,by kernel_rfl⟩ po hE (by kernel_rfl) (AT (by kernel_rfl))
 ·constructor<;>exact ⟨by kernel_rfl,by kernel_rfl,by kernel_rfl⟩
 ·constructor<;>exact ⟨by kernel_rfl,by kernel_rfl,by kernel_rfl⟩
theorem Ht:xX Tryz.prog cx:=by
 intro n hn;unfold cx dl bX at hn;cases agA:sh 117 n with
 |true=>have:=IS agA;subst this;exact aei
 |false=>
 simp only [agA,cond_false] at hn;try unfold bX at hn
 cases hn
def Gn:No:=⟨λ|146=>194|221=>233|268=>252|138=>253|143=>254|195=>269|197=>270|218=>271|219=>272|260=>282|217=>283|225=>279|224=>278|267=>284|266=>286|314=>287|n=>n,λ|9=>9|31=>55|3=>3|4=>4|0=>0|105=>349|21=>21|5=>5|46=>226|119=>356|139=>359|138=>358|146=>327|51=>244|n=>n,λ|1=>0|3=>1|4=>2|n=>n⟩
theorem aej:aaa Tryz.prog Gn:={
 mixed:=by kernel_rfl
 f138:=Tryz.func253.trans (congrArg some (by kernel_rfl))
 f143:=Tryz.func254.trans (congrArg some (by kernel_rfl))
 f146:=Tryz.func194.trans (congrArg some (by kernel_rfl))
 f195:=Tryz.func269.trans (congrArg some (by kernel_rfl))
 f197:=Tryz.func270.trans (congrArg some (by kernel_rfl))
 f217:=Tryz.func283.trans (congrArg some (by kernel_rfl))
 f218:=Tryz.func271.trans (congrArg some (by kernel_rfl))
 f219:=Tryz.func272.trans (congrArg some (by kernel_rfl))
 f221:=Tryz.func233.trans (congrArg some (by kernel_rfl))
 f224:=Tryz.func278.trans (congrArg some (by kernel_rfl))
 f225:=Tryz.func279.trans (congrArg some (by kernel_rfl))
 f260:=Tryz.func282.trans (congrArg some (by kernel_rfl))
 f266:=Tryz.func286.trans (congrArg some (by kernel_rfl))
 f267:=Tryz.func284.trans (congrArg some (by kernel_rfl))
 f268:=Tryz.func252.trans (congrArg some (by kernel_rfl))
 f314:=Tryz.func287.trans (congrArg some (by kernel_rfl))
 t0:=Tryz.underlying0
 a0:=Tryz.isAgg0
 z0:=Tryz.sizeOf0
 v0:=Tryz.zeroValue0
 t3:=Tryz.underlying3
 a3:=Tryz.isAgg3
 z3:=Tryz.sizeOf3
 v3:=Tryz.zeroValue3
 t4:=Tryz.underlying4
 a4:=Tryz.isAgg4
 z4:=Tryz.sizeOf4
 v4:=Tryz.zeroValue4
 t5:=Tryz.underlying5
 a5:=Tryz.isAgg5
 z5:=Tryz.sizeOf5
 v5:=Tryz.zeroValue5
 t9:=Tryz.underlying9
 a9:=Tryz.isAgg9
 z9:=Tryz.sizeOf9
 v9:=Tryz.zeroValue9
 t21:=Tryz.underlying21
 a21:=Tryz.isAgg21
 z21:=Tryz.sizeOf21
 v21:=Tryz.zeroValue21
 t31:=Tryz.underlying55
 a31:=Tryz.isAgg55
 z31:=Tryz.sizeOf55
 v31:=Tryz.zeroValue55
 t46:=Tryz.underlying226
 a46:=Tryz.isAgg226
 z46:=Tryz.sizeOf226
 v46:=Tryz.zeroValue226
 t51:=Tryz.underlying244
 a51:=Tryz.isAgg244
 z51:=Tryz.sizeOf244
 v51:=Tryz.zeroValue244
 t105:=Tryz.underlying349
 a105:=Tryz.isAgg349
 z105:=Tryz.sizeOf349
 v105:=Tryz.zeroValue349
 t119:=Tryz.underlying356
 a119:=Tryz.isAgg356
 z119:=Tryz.sizeOf356
 t138:=Tryz.underlying358
 a138:=Tryz.isAgg358
 z138:=Tryz.sizeOf358
 v138:=Tryz.zeroValue358
 t139:=Tryz.underlying359
 a139:=Tryz.isAgg359
 z139:=Tryz.sizeOf359
 v139:=Tryz.zeroValue359
 t146:=Tryz.underlying327
 a146:=Tryz.isAgg327
 z146:=Tryz.sizeOf327
 v146:=Tryz.zeroValue327
 g1:=by kernel_rfl
 g3:=by kernel_rfl
 g4:=by kernel_rfl}
def Gp:No:=⟨λ|160=>235|232=>256|231=>255|227=>257|234=>259|233=>258|236=>261|235=>260|228=>273|271=>274|151=>238|197=>270|120=>285|152=>263|260=>282|137=>276|119=>277|224=>278|225=>279|217=>283|266=>286|n=>n,λ|9=>9|4=>4|3=>3|5=>5|117=>341|116=>340|0=>0|124=>344|21=>21|105=>349|46=>226|119=>356|139=>359|138=>358|n=>n,λ|3=>1|4=>2|n=>n⟩
theorem aek:aaf Tryz.prog Gp:={
 mixed:=by kernel_rfl
 f119:=Tryz.func277.trans (congrArg some (by kernel_rfl))
 f120:=Tryz.func285.trans (congrArg some (by kernel_rfl))
 f137:=Tryz.func276.trans (congrArg some (by kernel_rfl))
 f151:=Tryz.func238.trans (congrArg some (by kernel_rfl))
 f152:=Tryz.func263.trans (congrArg some (by kernel_rfl))
 f160:=Tryz.func235.trans (congrArg some (by kernel_rfl))
 f197:=Tryz.func270.trans (congrArg some (by kernel_rfl))
 f217:=Tryz.func283.trans (congrArg some (by kernel_rfl))
 f224:=Tryz.func278.trans (congrArg some (by kernel_rfl))
 f225:=Tryz.func279.trans (congrArg some (by kernel_rfl))
 f227:=Tryz.func257.trans (congrArg some (by kernel_rfl))
 f228:=Tryz.func273.trans (congrArg some (by kernel_rfl))
 f231:=Tryz.func255.trans (congrArg some (by kernel_rfl))
 f232:=Tryz.func256.trans (congrArg some (by kernel_rfl))
 f233:=Tryz.func258.trans (congrArg some (by kernel_rfl))
 f234:=Tryz.func259.trans (congrArg some (by kernel_rfl))
 f235:=Tryz.func260.trans (congrArg some (by kernel_rfl))
 f236:=Tryz.func261.trans (congrArg some (by kernel_rfl))
 f260:=Tryz.func282.trans (congrArg some (by kernel_rfl))
 f266:=Tryz.func286.trans (congrArg some (by kernel_rfl))
 f271:=Tryz.func274.trans (congrArg some (by kernel_rfl))
 t0:=Tryz.underlying0
 a0:=Tryz.isAgg0
 z0:=Tryz.sizeOf0
 v0:=Tryz.zeroValue0
 t3:=Tryz.underlying3
 a3:=Tryz.isAgg3
 z3:=Tryz.sizeOf3
 v3:=Tryz.zeroValue3
 t4:=Tryz.underlying4
 a4:=Tryz.isAgg4
 z4:=Tryz.sizeOf4
 v4:=Tryz.zeroValue4
 t5:=Tryz.underlying5
 a5:=Tryz.isAgg5
 z5:=Tryz.sizeOf5
 v5:=Tryz.zeroValue5
 t9:=Tryz.underlying9
 a9:=Tryz.isAgg9
 z9:=Tryz.sizeOf9
 v9:=Tryz.zeroValue9
 t21:=Tryz.underlying21
 a21:=Tryz.isAgg21
 z21:=Tryz.sizeOf21
 v21:=Tryz.zeroValue21
 t46:=Tryz.underlying226
 a46:=Tryz.isAgg226
 z46:=Tryz.sizeOf226
 v46:=Tryz.zeroValue226
 t105:=Tryz.underlying349
 a105:=Tryz.isAgg349
 z105:=Tryz.sizeOf349
 v105:=Tryz.zeroValue349
 t116:=Tryz.underlying340
 a116:=Tryz.isAgg340
 z116:=Tryz.sizeOf340
 t117:=Tryz.underlying341
 a117:=Tryz.isAgg341
 z117:=Tryz.sizeOf341
 v117:=Tryz.zeroValue341
 t119:=Tryz.underlying356
 a119:=Tryz.isAgg356
 z119:=Tryz.sizeOf356
 t124:=Tryz.underlying344
 a124:=Tryz.isAgg344
 z124:=Tryz.sizeOf344
 v124:=Tryz.zeroValue344
 t138:=Tryz.underlying358
 a138:=Tryz.isAgg358
 z138:=Tryz.sizeOf358
 v138:=Tryz.zeroValue358
 t139:=Tryz.underlying359
 a139:=Tryz.isAgg359
 z139:=Tryz.sizeOf359
 v139:=Tryz.zeroValue359
 g3:=by kernel_rfl
 g4:=by kernel_rfl}
def Gq:No:=⟨λ|151=>238|152=>263|137=>276|119=>277|224=>278|225=>279|217=>283|266=>286|n=>n,λ|9=>9|21=>21|4=>4|3=>3|5=>5|0=>0|46=>226|n=>n,λ|n=>n⟩
theorem ael:aai Tryz.prog Gq:={
 mixed:=by kernel_rfl
 f119:=Tryz.func277.trans (congrArg some (by kernel_rfl))
 f137:=Tryz.func276.trans (congrArg some (by kernel_rfl))
 f151:=Tryz.func238.trans (congrArg some (by kernel_rfl))
 f152:=Tryz.func263.trans (congrArg some (by kernel_rfl))
 f217:=Tryz.func283.trans (congrArg some (by kernel_rfl))
 f224:=Tryz.func278.trans (congrArg some (by kernel_rfl))
 f225:=Tryz.func279.trans (congrArg some (by kernel_rfl))
 f266:=Tryz.func286.trans (congrArg some (by kernel_rfl))
 t0:=Tryz.underlying0
 a0:=Tryz.isAgg0
 z0:=Tryz.sizeOf0
 v0:=Tryz.zeroValue0
 t3:=Tryz.underlying3
 a3:=Tryz.isAgg3
 z3:=Tryz.sizeOf3
 v3:=Tryz.zeroValue3
 t4:=Tryz.underlying4
 a4:=Tryz.isAgg4
 z4:=Tryz.sizeOf4
 v4:=Tryz.zeroValue4
 t5:=Tryz.underlying5
 a5:=Tryz.isAgg5
 z5:=Tryz.sizeOf5
 v5:=Tryz.zeroValue5
 t9:=Tryz.underlying9
 a9:=Tryz.isAgg9
 z9:=Tryz.sizeOf9
 v9:=Tryz.zeroValue9
 t21:=Tryz.underlying21
 a21:=Tryz.isAgg21
 z21:=Tryz.sizeOf21
 v21:=Tryz.zeroValue21
 t46:=Tryz.underlying226
 a46:=Tryz.isAgg226
 z46:=Tryz.sizeOf226
 v46:=Tryz.zeroValue226}
abbrev GT:=Nat->List MV->Option MV
abbrev SG (g:GT):Prop:=jY Tryz.prog cx g
theorem aem {g:GT}(h:SG g):SG (bt 194 Ag g):=h.GR (λ_=>rfl) (λms r hr=>aaA (P:=Tryz.prog) (ρ:=Gn) (c:=cx) aej (by kernel_rfl) (by kernel_rfl) (by kernel_rfl) tv9 (by kernel_rfl) hr)
theorem aen {g:GT}(h:SG g):SG (bt 235 IU g):=h.GR (λ_=>rfl) (λms r hr=>ad7 (P:=Tryz.prog) (ρ:=Gp) (c:=cx) aek (by kernel_rfl) (by kernel_rfl) hr)
theorem aeo {g:GT}(h:SG g):SG (bt 238 tl g):=h.GR (λ_=>rfl) (λms r hr=>Tl (P:=Tryz.prog) (ρ:=Gq) (c:=cx) ael (by kernel_rfl) hr)
theorem aiu {g:GT}(h:SG g):SG (bt 61 (iu 6 72) g):=h.GR (λ_=>rfl) (λms r hr=>by obtain ⟨xs,rfl,rfl,h1,h2⟩:=u7 hr;exact DI (P:=Tryz.prog) (c:=cx) (f:=61) (fn:=Tryz.f61) (t:=31) (I:=kr 31) (E:=kr 57) (i0:=0) (i1:=1) (i2:=2) (i3:=3) (oA:=jP Tryz.f61 jQ 0) (oB:=jP Tryz.f61 jQ 1) (oC:=jP Tryz.f61 jQ 2) (oD:=jP Tryz.f61 jQ 3) (oE:=jP Tryz.f61 jQ 4) (oF:=jP Tryz.f61 jQ 5) (oG:=jP Tryz.f61 jQ 6) (oH:=jP Tryz.f61 jQ 7) po alZ (by kernel_rfl) al0 (AT (by kernel_rfl)) (by kernel_rfl) (by kernel_rfl) Tryz.func61 (by kernel_rfl) (by kernel_rfl) (by kernel_rfl) (by kernel_rfl) ⟨by kernel_rfl,by kernel_rfl,by kernel_rfl⟩ ⟨by kernel_rfl,by kernel_rfl,by kernel_rfl⟩ ⟨by kernel_rfl,by kernel_rfl,by kernel_rfl⟩ ⟨by kernel_rfl,by kernel_rfl,by kernel_rfl⟩ ⟨by kernel_rfl,by kernel_rfl,by kernel_rfl⟩ ⟨by kernel_rfl,by kernel_rfl,by kernel_rfl⟩ ⟨by kernel_rfl,by kernel_rfl,by kernel_rfl⟩ ⟨by kernel_rfl,by kernel_rfl,by kernel_rfl⟩ (by rw [show (kr 57).size=6 by kernel_rfl];exact h1) (by rw [show (kr 57).bytes=72 by kernel_rfl];exact h2))
theorem al1:IM Tryz.prog 63 31 3 4 57 122 Tryz.f63 (λk=>k) (jP Tryz.f63 jQ) (NN (jP Tryz.f63 jQ)):=by refine ⟨Tryz.func63,by kernel_rfl,by kernel_rfl,by kernel_rfl,by kernel_rfl,?_,yl,by kernel_rfl⟩;constructor<;>first|exact ⟨by kernel_rfl,by kernel_rfl,by kernel_rfl⟩|kernel_rfl
theorem apE: ∀args w,(callFunc 122 args).run Tryz.prog w=((AS #[31,31] #[4] args).run Tryz.prog w).andThen λv w'=> .ok (.value v) w':=λargs w=>run_callFunc_extern Tryz.func122 (by kernel_rfl) (by kernel_rfl) (by kernel_rfl) (e:=AS #[31,31] #[4]) (by kernel_rfl) args w
theorem aiv {g:GT}(h:SG g):SG (bt 63 (ko 72) g):=h.GR (λ_=>rfl) (λms r hr=>by obtain ⟨xs,ys,i,rfl,rfl,h1,h2,h3⟩:=xZ hr;exact Fk (P:=Tryz.prog) (c:=cx) (I:=kr 31) (E:=kr 57) al1 po alZ (by kernel_rfl) al0 (AT (by kernel_rfl)) (by kernel_rfl) (by kernel_rfl) (by kernel_rfl) (by kernel_rfl) apE h1 h2 (by rw [show (kr 57).bytes=72 by kernel_rfl];exact h3))
theorem aep {g:GT}(h:SG g):SG (bt 116 (iu 3 32) g):=h.GR (λ_=>rfl) (λms r hr=>by obtain ⟨xs,rfl,rfl,h1,h2⟩:=u7 hr;exact DI (P:=Tryz.prog) (c:=cx) (f:=116) (fn:=Tryz.f116) (t:=28) (I:=kr 28) (E:=kr 75) (i0:=0) (i1:=1) (i2:=2) (i3:=3) (oA:=jP Tryz.f116 jQ 0) (oB:=jP Tryz.f116 jQ 1) (oC:=jP Tryz.f116 jQ 2) (oD:=jP Tryz.f116 jQ 3) (oE:=jP Tryz.f116 jQ 4) (oF:=jP Tryz.f116 jQ 5) (oG:=jP Tryz.f116 jQ 6) (oH:=jP Tryz.f116 jQ 7) po apC (by kernel_rfl) apD (AT (by kernel_rfl)) (by kernel_rfl) (by kernel_rfl) Tryz.func116 (by kernel_rfl) (by kernel_rfl) (by kernel_rfl) (by kernel_rfl) ⟨by kernel_rfl,by kernel_rfl,by kernel_rfl⟩ ⟨by kernel_rfl,by kernel_rfl,by kernel_rfl⟩ ⟨by kernel_rfl,by kernel_rfl,by kernel_rfl⟩ ⟨by kernel_rfl,by kernel_rfl,by kernel_rfl⟩ ⟨by kernel_rfl,by kernel_rfl,by kernel_rfl⟩ ⟨by kernel_rfl,by kernel_rfl,by kernel_rfl⟩ ⟨by kernel_rfl,by kernel_rfl,by kernel_rfl⟩ ⟨by kernel_rfl,by kernel_rfl,by kernel_rfl⟩ (by rw [show (kr 75).size=3 by kernel_rfl];exact h1) (by rw [show (kr 75).bytes=32 by kernel_rfl];exact h2))
theorem aiw:IM Tryz.prog 218 22 3 4 98 246 Tryz.f218 (λk=>k) (jP Tryz.f218 jQ) (NN (jP Tryz.f218 jQ)):=by refine ⟨Tryz.func218,by kernel_rfl,by kernel_rfl,by kernel_rfl,by kernel_rfl,?_,yl,by kernel_rfl⟩;constructor<;>first|exact ⟨by kernel_rfl,by kernel_rfl,by kernel_rfl⟩|kernel_rfl
theorem al2: ∀args w,(callFunc 246 args).run Tryz.prog w=((AS #[22,22] #[4] args).run Tryz.prog w).andThen λv w'=> .ok (.value v) w':=λargs w=>run_callFunc_extern Tryz.func246 (by kernel_rfl) (by kernel_rfl) (by kernel_rfl) (e:=AS #[22,22] #[4]) (by kernel_rfl) args w
theorem aeq {g:GT}(h:SG g):SG (bt 218 (ko 48) g):=h.GR (λ_=>rfl) (λms r hr=>by obtain ⟨xs,ys,i,rfl,rfl,h1,h2,h3⟩:=xZ hr;exact Fk (P:=Tryz.prog) (c:=cx) (I:=kr 22) (E:=kr 98) aiw po air (by kernel_rfl) ait (AT (by kernel_rfl)) (by kernel_rfl) (by kernel_rfl) (by kernel_rfl) (by kernel_rfl) al2 h1 h2 (by rw [show (kr 98).bytes=48 by kernel_rfl];exact h3))
theorem aer {g:GT}(h:SG g):SG (bt 219 (iu 4 48) g):=h.GR (λ_=>rfl) (λms r hr=>by obtain ⟨xs,rfl,rfl,h1,h2⟩:=u7 hr;exact DI (P:=Tryz.prog) (c:=cx) (f:=219) (fn:=Tryz.f219) (t:=22) (I:=kr 22) (E:=kr 98) (i0:=0) (i1:=1) (i2:=2) (i3:=3) (oA:=jP Tryz.f219 jQ 0) (oB:=jP Tryz.f219 jQ 1) (oC:=jP Tryz.f219 jQ 2) (oD:=jP Tryz.f219 jQ 3) (oE:=jP Tryz.f219 jQ 4) (oF:=jP Tryz.f219 jQ 5) (oG:=jP Tryz.f219 jQ 6) (oH:=jP Tryz.f219 jQ 7) po air (by kernel_rfl) ait (AT (by kernel_rfl)) (by kernel_rfl) (by kernel_rfl) Tryz.func219 (by kernel_rfl) (by kernel_rfl) (by kernel_rfl) (by kernel_rfl) ⟨by kernel_rfl,by kernel_rfl,by kernel_rfl⟩ ⟨by kernel_rfl,by kernel_rfl,by kernel_rfl⟩ ⟨by kernel_rfl,by kernel_rfl,by kernel_rfl⟩ ⟨by kernel_rfl,by kernel_rfl,by kernel_rfl⟩ ⟨by kernel_rfl,by kernel_rfl,by kernel_rfl⟩ ⟨by kernel_rfl,by kernel_rfl,by kernel_rfl⟩ ⟨by kernel_rfl,by kernel_rfl,by kernel_rfl⟩ ⟨by kernel_rfl,by kernel_rfl,by kernel_rfl⟩ (by rw [show (kr 98).size=4 by kernel_rfl];exact h1) (by rw [show (kr 98).bytes=48 by kernel_rfl];exact h2))
theorem aix:Qb Tryz.prog 223 22 3 98 Tryz.f223 (λk=>k) (jP Tryz.f223 jQ):=by refine ⟨Tryz.func223,by kernel_rfl,by kernel_rfl,by kernel_rfl,by kernel_rfl,?_,yl,by kernel_rfl⟩;constructor<;>first|exact ⟨by kernel_rfl,by kernel_rfl,by kernel_rfl⟩|kernel_rfl
theorem aes {g:GT}(h:SG g):SG (bt 223 qE g):=h.GR (λ_=>rfl) (λms r hr=>by obtain ⟨xs,i,j,rfl,rfl,h1,h2⟩:=DN hr;exact Mg (P:=Tryz.prog) (c:=cx) (I:=kr 22) (E:=kr 98) aix po air (by kernel_rfl) ait (by kernel_rfl) (by kernel_rfl) (by kernel_rfl) h1 h2)
theorem aiy:IM Tryz.prog 225 25 3 4 126 248 Tryz.f225 (λk=>k) (jP Tryz.f225 jQ) (NN (jP Tryz.f225 jQ)):=by refine ⟨Tryz.func225,by kernel_rfl,by kernel_rfl,by kernel_rfl,by kernel_rfl,?_,yl,by kernel_rfl⟩;constructor<;>first|exact ⟨by kernel_rfl,by kernel_rfl,by kernel_rfl⟩|kernel_rfl
theorem al3: ∀args w,(callFunc 248 args).run Tryz.prog w=((AS #[25,25] #[4] args).run Tryz.prog w).andThen λv w'=> .ok (.value v) w':=λargs w=>run_callFunc_extern Tryz.func248 (by kernel_rfl) (by kernel_rfl) (by kernel_rfl) (e:=AS #[25,25] #[4]) (by kernel_rfl) args w
theorem aet {g:GT}(h:SG g):SG (bt 225 (ko 24) g):=h.GR (λ_=>rfl) (λms r hr=>by obtain ⟨xs,ys,i,rfl,rfl,h1,h2,h3⟩:=xZ hr;exact Fk (P:=Tryz.prog) (c:=cx) (I:=kr 25) (E:=kr 126) aiy po ais (by kernel_rfl) aaT (AT (by kernel_rfl)) (by kernel_rfl) (by kernel_rfl) (by kernel_rfl) (by kernel_rfl) al3 h1 h2 (by rw [show (kr 126).bytes=24 by kernel_rfl];exact h3))
theorem aeu {g:GT}(h:SG g):SG (bt 226 (iu 3 24) g):=h.GR (λ_=>rfl) (λms r hr=>by obtain ⟨xs,rfl,rfl,h1,h2⟩:=u7 hr;exact DI (P:=Tryz.prog) (c:=cx) (f:=226) (fn:=Tryz.f226) (t:=25) (I:=kr 25) (E:=kr 126) (i0:=0) (i1:=1) (i2:=2) (i3:=3) (oA:=jP Tryz.f226 jQ 0) (oB:=jP Tryz.f226 jQ 1) (oC:=jP Tryz.f226 jQ 2) (oD:=jP Tryz.f226 jQ 3) (oE:=jP Tryz.f226 jQ 4) (oF:=jP Tryz.f226 jQ 5) (oG:=jP Tryz.f226 jQ 6) (oH:=jP Tryz.f226 jQ 7) po ais (by kernel_rfl) aaT (AT (by kernel_rfl)) (by kernel_rfl) (by kernel_rfl) Tryz.func226 (by kernel_rfl) (by kernel_rfl) (by kernel_rfl) (by kernel_rfl) ⟨by kernel_rfl,by kernel_rfl,by kernel_rfl⟩ ⟨by kernel_rfl,by kernel_rfl,by kernel_rfl⟩ ⟨by kernel_rfl,by kernel_rfl,by kernel_rfl⟩ ⟨by kernel_rfl,by kernel_rfl,by kernel_rfl⟩ ⟨by kernel_rfl,by kernel_rfl,by kernel_rfl⟩ ⟨by kernel_rfl,by kernel_rfl,by kernel_rfl⟩ ⟨by kernel_rfl,by kernel_rfl,by kernel_rfl⟩ ⟨by kernel_rfl,by kernel_rfl,by kernel_rfl⟩ (by rw [show (kr 126).size=3 by kernel_rfl];exact h1) (by rw [show (kr 126).bytes=24 by kernel_rfl];exact h2))
theorem aiz:Qb Tryz.prog 227 25 3 126 Tryz.f227 (λk=>k) (jP Tryz.f227 jQ):=by refine ⟨Tryz.func227,by kernel_rfl,by kernel_rfl,by kernel_rfl,by kernel_rfl,?_,yl,by kernel_rfl⟩;constructor<;>first|exact ⟨by kernel_rfl,by kernel_rfl,by kernel_rfl⟩|kernel_rfl
theorem aev {g:GT}(h:SG g):SG (bt 227 qE g):=h.GR (λ_=>rfl) (λms r hr=>by obtain ⟨xs,i,j,rfl,rfl,h1,h2⟩:=DN hr;exact Mg (P:=Tryz.prog) (c:=cx) (I:=kr 25) (E:=kr 126) aiz po ais (by kernel_rfl) aaT (by kernel_rfl) (by kernel_rfl) (by kernel_rfl) h1 h2)
def H61:GT:=bt 61 (iu 6 72) (λ_ _=>none)
theorem aaU:SG H61:=aiu (jY.none _ _)
def H63:GT:=bt 63 (ko 72) H61
theorem aaV:SG H63:=aiv aaU
def al4:GT:=bt 116 (iu 3 32) H63
theorem W9:SG al4:=aep aaV
def al5:GT:=bt 194 Ag al4
theorem Xa:SG al5:=aem W9
def al6:GT:=bt 218 (ko 48) al5
theorem Xb:SG al6:=aeq Xa
def al7:GT:=bt 219 (iu 4 48) al6
theorem Xc:SG al7:=aer Xb
def al8:GT:=bt 223 qE al7
theorem Xd:SG al8:=aes Xc
def al9:GT:=bt 225 (ko 24) al8
theorem Xe:SG al9:=aet Xd
def ama:GT:=bt 226 (iu 3 24) al9
theorem Xf:SG ama:=aeu Xe
def amb:GT:=bt 227 qE ama
theorem Xg:SG amb:=aev Xf
def amc:GT:=bt 235 IU amb
theorem Xh:SG amc:=aen Xg
def amd:GT:=bt 238 tl amc
theorem Xi:SG amd:=aeo Xh
theorem sb {g:GT}(s:SG g)(cE:List (List Kd))(par:List (Nat×Nat))(tn:Nat)(bs fl:List Nat)(fz ord:List (Nat×List Nat))(HI Hf FW:List (Nat×se))(dyn:List Nat){n:Nat}{fn:Func}{F:List MV->Option MV}(hf:Tryz.prog.funcs[n]? =some fn)(hh:Mc (W8 g par tn bs fl fz ord HI Hf FW dyn) n fn cE=true)(hF: ∀{ms r},F ms=some r->HQ (W8 g par tn bs fl fz ord HI Hf FW dyn) cE none fn ms=some r):SG (bt n F g):=s.fn (c':=W8 g par tn bs fl fz ord HI Hf FW dyn) ⟨rfl,rfl,rfl,rfl,rfl,rfl,rfl,rfl,rfl⟩ rfl po Vl Vp Vr yl Ht hf hh (λ_=>rfl) (fresh:=none) rfl hF
theorem kQ {g:GT}(s:SG g)(cE:List (List Kd))(tn:Nat)(HI Hf FW:List (Nat×se)){n:Nat}{fn:Func}{F:List MV->Option MV}(hf:Tryz.prog.funcs[n]? =some fn)(hh:Mc (W8 g [] tn [] [] [] [] HI Hf FW []) n fn cE=true)(hF: ∀{ms r},F ms=some r->HQ (W8 g [] tn [] [] [] [] HI Hf FW []) cE none fn ms=some r):SG (bt n F g):=sb s cE [] tn [] [] [] [] HI Hf FW [] hf hh hF
theorem R8 {g:GT}(s:SG g)(pos:Nat)(ks:List LK)(cE:List (List Kd))(par:List (Nat×Nat))(tn:Nat)(bs fl:List Nat)(fz ord:List (Nat×List Nat))(HI Hf FW:List (Nat×se))(dyn:List Nat){n:Nat}{fn:Func}{F:List MV->Option MV}(hf:Tryz.prog.funcs[n]? =some fn)(hs:cx.sig n=some (pos,ks))(hh:U8 (W8 g par tn bs fl fz ord HI Hf FW dyn) n fn cE=true)(hF: ∀{ms r},F ms=some r->Lx (W8 g par tn bs fl fz ord HI Hf FW dyn) cE pos ks fn ms=some r):SG (bt n F g):=s.R8 po Vl Vp Vr yl Ht hf hs (λ_=>rfl) λh=>⟨W8 g par tn bs fl fz ord HI Hf FW dyn,⟨rfl,rfl,rfl,rfl,rfl,rfl,rfl,rfl,rfl⟩,rfl,hh,hF h⟩
theorem fnF {g:GT}(s:SG g)(ty:Nat)(cE:List (List Kd))(par:List (Nat×Nat))(tn:Nat)(bs fl:List Nat)(fz ord:List (Nat×List Nat))(HI Hf FW:List (Nat×se))(dyn:List Nat){n:Nat}{fn:Func}{F:List MV->Option MV}(hf:Tryz.prog.funcs[n]? =some fn)(hh:Mc (W8 g par tn bs fl fz ord HI Hf FW dyn) n fn cE=true)(E5:IK (W8 g par tn bs fl fz ord HI Hf FW dyn) n fn (some ty)=true)(hF: ∀{ms r},F ms=some r->HQ (W8 g par tn bs fl fz ord HI Hf FW dyn) cE (some ty) fn ms=some r):SG (bt n F g):=s.fn (c':=W8 g par tn bs fl fz ord HI Hf FW dyn) ⟨rfl,rfl,rfl,rfl,rfl,rfl,rfl,rfl,rfl⟩ rfl po Vl Vp Vr yl Ht hf hh (λ_=>rfl) E5 hF
abbrev Xj (d:List MV->Option MV):List MV->Option MV:=λms=>match ms with|[.cell (.func off a0)]=>(match sh off 0 with|true=>d a0|false=>none)|_=>none
theorem tU {d:List MV->Option MV}{B:List MV->Option MV}(h: ∀a0,B [.cell (.func 0 a0)]=d a0){ms:List MV}{r:MV}(e:Xj d ms=some r):B ms=some r:=by
 unfold Xj at e;split at e
 ·rename_i off a0;cases ho:sh off 0 with
  |true=>have:=IS ho;subst this;exact (h _).trans e
  |false=>rw [ho] at e;cases e
 ·cases e
abbrev cl2 (d:List MV->MV->Option MV):List MV->Option MV:=λms=>match ms with|[.cell (.func off a0),a1]=>(match sh off 0 with|true=>d a0 a1|false=>none)|_=>none
theorem aaW {d:List MV->MV->Option MV}{B:List MV->Option MV}(h: ∀a0 a1,B [.cell (.func 0 a0),a1]=d a0 a1){ms:List MV}{r:MV}(e:cl2 d ms=some r):B ms=some r:=by
 unfold cl2 at e;split at e
 ·rename_i off a0 a1;cases ho:sh off 0 with
  |true=>have:=IS ho;subst this;exact (h _ _).trans e
  |false=>rw [ho] at e;cases e
 ·cases e
def Hu (a:MV):Option MV:=gA a λcs=>
 fI cs λbW bN dg b7 Seen=>
 bd (
 a7 bW λlen=>
 aQ (decide ((40:Int)<(len:Int))) (
 some [.b true]) (
 a7 b7 λcW=>
 aQ (decide ((40:Int)<(cW:Int))) (
 some [.b true]) (
 a7 dg λdO=>
 aQ (decide ((60:Int)<(dO:Int))) (
 some [.b true]) (
 a7 Seen λjJ=>
 aQ (decide ((60:Int)<(jJ:Int))) (
 some [.b true]) (
 some [.b (decide ((10000000000:Int)<bN))]))))) λvs=>
 gC vs λm5 lj=>
 gB m5 λx=>
 gN lj<|
 aQ x (
 some (.b false)) (
 bd (Loop (λni=>
 gC ni λm6 lk=>
 gI .i64 m6 λx1=>
 gN lk<|
 a7 bW λlO=>
 aQ (decide (x1<(lO:Int))) (
 bd (
 idx bW x1 λy=>
 gA y λdP=>
 fa dP λPath Value Version bF=>
 aQ (decide ((200:Int)<(Path.length:Int))) (
 some [.b true]) (
 idx bW x1 λy1=>
 gA y1 λlu=>
 fa lu λdX cT bJ pu=>
 some [.b (decide ((1100:Int)<(cT.length:Int)))])) λiM=>
 gC iM λm15 I4=>
 gB m15 λx2=>
 gN I4<|
 aQ x2 (
 some (.inr (1,[.b false]))) (
 some (.inl [.i .i64 (c8 .i64 (x1+1))]))) (
 some (.inr (2,[])))) [.i .i64 0]) λp=>
 aQ (sh p.1 2) (
 gN p.2<|
 bd (Loop (λAt=>
 gC At λm16 tV=>
 gI .i64 m16 λx3=>
 gN tV<|
 a7 b7 λym=>
 aQ (decide (x3<(ym:Int))) (
 idx b7 x3 λy2=>
 gA y2 λlZ=>
 vS lZ λtW Client Kids=>
 aQ (decide ((200:Int)<(tW.length:Int))) (
 some (.inr (1,[.b false]))) (
 some (.inl [.i .i64 (c8 .i64 (x3+1))]))) (
 some (.inr (4,[])))) [.i .i64 0]) λp3=>
 aQ (sh p3.1 4) (
 gN p3.2<|
 bd (Loop (λrq=>
 gC rq λB5 pv=>
 gI .i64 B5 λx4=>
 gN pv<|
 a7 Seen λAu=>
 aQ (decide (x4<(Au:Int))) (
 bd (
 idx Seen x4 λy3=>
 gA y3 λKZ=>
 cv KZ λck Seq E ll ft Names=>
 aQ (decide ((1100:Int)<(ll.length:Int))) (
 some [.b true]) (
 idx Seen x4 λy4=>
 gA y4 λTv=>
 cv Tv λnQ mO E1 CV xd iS=>
 a7 iS λI5=>
 some [.b (decide ((40:Int)<(I5:Int)))])) λoO=>
 gC oO λm33 I6=>
 gB m33 λx5=>
 gN I6<|
 aQ x5 (
 some (.inr (1,[.b false]))) (
 bd (Loop (λxe=>
 gC xe λm34 DX=>
 gI .i64 m34 λx6=>
 gN DX<|
 idx Seen x4 λy5=>
 gA y5 λcs6=>
 cv cs6 λDY Tw E2 aaY Ql I7=>
 a7 I7 λaiB=>
 aQ (decide (x6<(aiB:Int))) (
 idx Seen x4 λy6=>
 gA y6 λcs7=>
 cv cs7 λVs aaZ E3 apF amf N5=>
 idx N5 x6 λy7=>
 gS y7 λx7=>
 aQ (decide ((200:Int)<(x7.length:Int))) (
 some (.inr (1,[.b false]))) (
 some (.inl [.i .i64 (c8 .i64 (x6+1))]))) (
 some (.inr (8,[])))) [.i .i64 0]) λp7=>
 aQ (sh p7.1 8) (
 gN p7.2<|
 some (.inl [.i .i64 (c8 .i64 (x4+1))])) (
 bU (sh p7.1 1)<|
 gC p7.2 λm47 aa0=>
 gB m47 λx8=>
 gN aa0<|
 some (.inr (1,[.b x8]))))) (
 some (.inr (6,[])))) [.i .i64 0]) λp6=>
 aQ (sh p6.1 6) (
 gN p6.2<|
 some (.b true)) (
 bU (sh p6.1 1)<|
 gC p6.2 λm48 Qm=>
 gB m48 λx9=>
 gN Qm<|
 some (.b x9))) (
 bU (sh p3.1 1)<|
 gC p3.2 λm49 ami=>
 gB m49 λpq=>
 gN ami<|
 some (.b pq))) (
 bU (sh p.1 1)<|
 gC p.2 λm50 amj=>
 gB m50 λrn=>
 gN amj<|
 some (.b rn)))
def Vt:GT:=bt 13 (mb Hu) amd
theorem Qn:SG Vt:=kQ Xi [] 130 [(16,⟨[1,5],[],[],[(0,[(107,.sc (.k .b))])],[]⟩),(6,⟨[1,3],[],[],[(0,[(65,.sc (.k .b))])],[]⟩),(1,⟨[1],[],[],[(0,[(37,.sc (.k .b))])],[]⟩)] [] [(19,⟨[1,5],[],[(6,.sc (.k (.i .i64)))],[(1,[(2,.sc (.k .b))]),(8,[])],[]⟩),(14,⟨[1],[],[(5,.sc (.k (.i .i64)))],[(1,[(2,.sc (.k .b))]),(6,[])],[]⟩),(9,⟨[1],[],[(4,.sc (.k (.i .i64)))],[(1,[(2,.sc (.k .b))]),(4,[])],[]⟩),(4,⟨[1],[],[(3,.sc (.k (.i .i64)))],[(1,[(2,.sc (.k .b))]),(2,[])],[]⟩)] Tryz.func13 (by kernel_rfl) (dp (λ_=>by kernel_rfl))
def Bv (lA:MV):Option MV:=gL lA λtX=>
 bd (Loop (λfw=>
 gC fw λm ek=>
 gI .i64 m λi=>
 gN ek<|
 a7 tX λlen=>
 aQ (decide (i<(len:Int))) (
 bd (
 aQ (decide (i=30)) (
 some [.b true]) (
 idx tX i λy=>
 gA y λcs=>
 gU cs λClient Seq Kind Path Value Version Session Span=>
 aQ (decide ((200:Int)<(Path.length:Int))) (
 some [.b true]) (
 idx tX i λy1=>
 gA y1 λdP=>
 gU dP λck mO I8 dX cT bJ DZ pT=>
 some [.b (decide ((1100:Int)<(cT.length:Int)))]))) λvs=>
 gC vs λTu tV=>
 gB Tu λx=>
 gN tV<|
 aQ x (
 some (.inr (1,[.b false]))) (
 some (.inl [.i .i64 (c8 .i64 (i+1))]))) (
 some (.inr (2,[])))) [.i .i64 0]) λp=>
 aQ (sh p.1 2) (
 gN p.2<|
 some (.b true)) (
 bU (sh p.1 1)<|
 gC p.2 λm18 D5=>
 gB m18 λx1=>
 gN D5<|
 some (.b x1))
def Mp:GT:=bt 14 (mb Bv) Vt
theorem K0:SG Mp:=kQ Qn [] 30 [(4,⟨[0,3],[],[],[(0,[(29,.sc (.k .b))])],[]⟩)] [] [(2,⟨[0],[],[(3,.sc (.k (.i .i64)))],[(1,[(2,.sc (.k .b))]),(2,[])],[]⟩)] Tryz.func14 (by kernel_rfl) (dp (λ_=>by kernel_rfl))
def D6 (p:MV):Option MV:=gS p λp1=>
 bd (
 aQ (decide ((p1.length:Int)=0)) (
 some [.b true]) (
 bU (decide ((0:Int)<=0/\(0:Int)<(p1.length:Int)))<|
 some [.b (!decide (((p1.getD (AI 0) 0).toNat:Int)=47))])) λvs=>
 gC vs λm fw=>
 gB m λx=>
 gN fw<|
 aQ x (
 some (.cj [.list ([]:List MV),.b false])) (
 aQ (decide (p1=([47]:List UInt8))) (
 some (.cj [.list ([]:List MV),.b true])) (
 bd (Loop (λek=>
 gC ek λm1 iT=>
 gL m1 λout=>
 jSI iT λname i=>
 aQ (decide (i<(p1.length:Int))) (
 bU (decide ((0:Int)<=i/\i<(p1.length:Int)))<|
 bd (
 aQ (decide (((p1.getD (AI i) 0).toNat:Int)=47)) (
 a7 out λlen=>
 a7 ([.s name]:List MV) λcW=>
 bU (decide ((len+cW) *16<=2^46))<|
 some (0,[.list (out++([.s name]:List MV)),.s ([]:List UInt8)])) (
 bU (decide ((0:Int)<=i/\i<(p1.length:Int)))<|
 HL ([.i .u8 ((p1.getD (AI i) 0).toNat:Int)]:List MV) λbs=>
 bU (decide (name.length+bs.length<=2^46))<|
 some (0,[.list out,.s (name++bs)]))) λp3=>
 bU (sh p3.1 0)<|
 gC p3.2 λm4 lj=>
 gL m4 λkR=>
 gC lj λm5 ni=>
 gS m5 λamk=>
 gN ni<|
 some (.inl [.list kR,.s amk,.i .i64 (c8 .i64 (i+1))])) (
 some (.inr (2,[.list out,.s name])))) [.list ([]:List MV),.s ([]:List UInt8),.i .i64 1]) λp2=>
 bU (sh p2.1 2)<|
 gC p2.2 λm6 lk=>
 gL m6 λD7=>
 gC lk λm7 ml=>
 gS m7 λagB=>
 gN ml<|
 a7 D7 λdO=>
 a7 ([.s agB]:List MV) λjJ=>
 bU (decide ((dO+jJ) *16<=2^46))<|
 some (.cj [.list (D7++([.s agB]:List MV)),.b true])))
def Vu:GT:=bt 166 (mb D6) Mp
theorem Qo:SG Vu:=sb K0 [] [] 46 [32,43] [] [] [] [(2,⟨[0,4],[7],[],[(0,[(15,.sc (.k .b))])],[7,38]⟩)] [(11,⟨[0,6],[],[],[(0,[(4,.sc (.own 7 9 true)),(5,.sc (.k .s))])],[7,38]⟩)] [(8,⟨[0],[],[(4,.sc (.own 7 9 true)),(5,.sc (.k .s)),(6,.sc (.k (.i .i64)))],[(2,[(4,.sc (.own 7 9 true)),(5,.sc (.k .s))])],[7,38]⟩)] [] Tryz.func166 (by kernel_rfl) (dp (λ_=>by kernel_rfl))
def yn (sA:MV):Option MV:=gS sA λkS=>
 bd (Loop (λfw=>
 gC fw λm ek=>
 gI .i64 m λi=>
 gN ek<|
 aQ (decide (i<(kS.length:Int))) (
 bU (decide ((0:Int)<=i/\i<(kS.length:Int)))<|
 bd (
 aQ (decide ((97:Int)<=((kS.getD (AI i) 0).toNat:Int))) (
 aQ (decide (((kS.getD (AI i) 0).toNat:Int)<=122)) (
 some [.b true]) (
 aQ (decide ((48:Int)<=((kS.getD (AI i) 0).toNat:Int))) (
 aQ (decide (((kS.getD (AI i) 0).toNat:Int)<=57)) (
 some [.b true]) (
 aQ (decide (((kS.getD (AI i) 0).toNat:Int)=45)) (
 some [.b true]) (
 some [.b (decide (((kS.getD (AI i) 0).toNat:Int)=95))]))) (
 aQ (decide (((kS.getD (AI i) 0).toNat:Int)=45)) (
 some [.b true]) (
 some [.b (decide (((kS.getD (AI i) 0).toNat:Int)=95))])))) (
 aQ (decide ((48:Int)<=((kS.getD (AI i) 0).toNat:Int))) (
 aQ (decide (((kS.getD (AI i) 0).toNat:Int)<=57)) (
 some [.b true]) (
 aQ (decide (((kS.getD (AI i) 0).toNat:Int)=45)) (
 some [.b true]) (
 some [.b (decide (((kS.getD (AI i) 0).toNat:Int)=95))]))) (
 aQ (decide (((kS.getD (AI i) 0).toNat:Int)=45)) (
 some [.b true]) (
 some [.b (decide (((kS.getD (AI i) 0).toNat:Int)=95))])))) λvs=>
 gC vs λm1 iT=>
 gB m1 λletter=>
 gN iT<|
 aQ (!letter) (
 some (.inr (1,[.b false]))) (
 some (.inl [.i .i64 (c8 .i64 (i+1))]))) (
 some (.inr (2,[])))) [.i .i64 0]) λp=>
 aQ (sh p.1 2) (
 gN p.2<|
 bd (
 aQ (decide ((1:Int)<=(kS.length:Int))) (
 some [.b (decide ((kS.length:Int)<=30))]) (
 some [.b false])) λiM=>
 gC iM λm2 mn=>
 gB m2 λx=>
 gN mn<|
 some (.b x)) (
 bU (sh p.1 1)<|
 gC p.2 λm3 n8=>
 gB m3 λx1=>
 gN n8<|
 some (.b x1))
def I9:GT:=bt 167 (mb yn) Vu
theorem Ja:SG I9:=kQ Qo [] 47 [(8,⟨[0],[],[],[(0,[(2,.sc (.k .b))])],[]⟩),(5,⟨[0,3,4],[],[],[(0,[(5,.sc (.k .b))])],[]⟩)] [] [(2,⟨[0],[],[(3,.sc (.k (.i .i64)))],[(1,[(2,.sc (.k .b))]),(2,[])],[]⟩)] Tryz.func167 (by kernel_rfl) (dp (λ_=>by kernel_rfl))
def kZ (p:MV):Option MV:=gS p λp1=>
 aQ (decide ((100:Int)<(p1.length:Int))) (
 some (.b false)) (
 bd (D6 (.s p1)) λrA=>
 gT rA λvs=>
 O6 vs λx x1=>
 bd (Loop (λiT=>
 gC iT λm2 mn=>
 gI .i64 m2 λi=>
 gN mn<|
 a7 x λlen=>
 aQ (decide (i<(len:Int))) (
 idx x i λy=>
 gS y λx2=>
 bd (yn (.s x2)) λaT=>
 gB aT λx3=>
 aQ (!x3) (
 some (.inr (1,[.b false]))) (
 some (.inl [.i .i64 (c8 .i64 (i+1))]))) (
 some (.inr (2,[])))) [.i .i64 0]) λp2=>
 aQ (sh p2.1 2) (
 gN p2.2<|
 bd (
 aQ x1 (
 a7 x λcW=>
 some [.b (decide ((cW:Int)<=8))]) (
 some [.b false])) λiM=>
 gC iM λm3 n8=>
 gB m3 λx4=>
 gN n8<|
 some (.b x4)) (
 bU (sh p2.1 1)<|
 gC p2.2 λm4 lj=>
 gB m4 λx5=>
 gN lj<|
 some (.b x5)))
def Mq:GT:=bt 100 (mb kZ) I9
theorem K1:SG Mq:=kQ Ja [] 32 [(9,⟨[3,4],[],[],[(0,[(2,.sc (.k .b))])],[]⟩)] [] [(5,⟨[3,4],[],[(5,.sc (.k (.i .i64)))],[(1,[(2,.sc (.k .b))]),(2,[])],[]⟩)] Tryz.func100 (by kernel_rfl) (dp (λ_=>by kernel_rfl))
def qn (p:MV):Option MV:=gS p λp1=>
 bd (kZ (.s p1)) λrA=>
 gB rA λx=>
 aQ (!x) (
 some (.cj [.list ([]:List MV),.i .i64 13])) (
 bd (D6 (.s p1)) λaT=>
 gT aT λvs=>
 O6 vs λx1 x2=>
 some (.cj [.list x1,.i .i64 0]))
def Mr:GT:=bt 168 (mb qn) Mq
theorem K3:SG Mr:=kQ K1 [] 15 [] [] [] Tryz.func168 (by kernel_rfl) (dp (λ_=>by kernel_rfl))
def xf (p q:MV):Option MV:=gS p λp1=>
 gS q λq1=>
 bd (qn (.s p1)) λrA=>
 gT rA λvs=>
 Gm vs λx x1=>
 bd (qn (.s q1)) λaT=>
 gT aT λiM=>
 Gm iM λx2 x3=>
 bd (
 aQ (!decide (x1=0)) (
 some [.b true]) (
 some [.b (!decide (x3=0))])) λoO=>
 gC oO λm4 n8=>
 gB m4 λx4=>
 gN n8<|
 aQ x4 (
 some (.b false)) (
 bd (Loop (λlj=>
 gC lj λm5 ni=>
 gI .i64 m5 λi=>
 gN ni<|
 bd (
 a7 x λlen=>
 aQ (decide (i<(len:Int))) (
 a7 x2 λcW=>
 some [.b (decide (i<(cW:Int)))]) (
 some [.b false])) λTx=>
 gC Tx λm6 lk=>
 gB m6 λx5=>
 gN lk<|
 aQ x5 (
 idx x i λy=>
 gS y λx6=>
 idx x2 i λy1=>
 gS y1 λx7=>
 aQ (!decide (x6=x7)) (
 idx x i λy2=>
 gS y2 λx8=>
 idx x2 i λy3=>
 gS y3 λx9=>
 some (.inr (1,[.b (OF x8 x9)]))) (
 some (.inl [.i .i64 (c8 .i64 (i+1))]))) (
 some (.inr (2,[])))) [.i .i64 0]) λp2=>
 aQ (sh p2.1 2) (
 gN p2.2<|
 a7 x λdO=>
 a7 x2 λjJ=>
 some (.b (decide ((dO:Int)<(jJ:Int))))) (
 bU (sh p2.1 1)<|
 gC p2.2 λm7 ml=>
 gB m7 λpq=>
 gN ml<|
 some (.b pq)))
def Ms:GT:=bt 101 (dC xf) Mr
theorem K4:SG Ms:=sb K3 [] [] 61 [] [] [] [(8,[0,1,2,3,4,5,6,7,8]),(9,[0,1,2,3,4,5,6,7,8,9])] [(6,⟨[5,7,9],[],[],[(0,[(35,.sc (.k .b))])],[]⟩),(3,⟨[5,6,7,8],[],[],[(0,[(25,.sc (.k .b))])],[]⟩)] [] [(6,⟨[5,7],[],[(9,.sc (.k (.i .i64)))],[(1,[(4,.sc (.k .b))]),(2,[])],[]⟩)] [] Tryz.func101 (by kernel_rfl) (bl (λ_ _=>by kernel_rfl))
def D8 (lA:MV):Option MV:=gL lA λtX=>
 bd (Loop (λfw=>
 jSI fw λout i=>
 a7 tX λlen=>
 aQ (decide (i<(len:Int))) (
 bU (decide (out.length+([47]:List UInt8).length<=2^46))<|
 idx tX i λy=>
 gS y λx=>
 bU (decide ((out++([47]:List UInt8)).length+x.length<=2^46))<|
 some (.inl [.s ((out++([47]:List UInt8))++x),.i .i64 (c8 .i64 (i+1))])) (
 some (.inr (2,[.s out])))) [.s ([]:List UInt8),.i .i64 0]) λp=>
 bU (sh p.1 2)<|
 gC p.2 λm2 mn=>
 gS m2 λkR=>
 gN mn<|
 aQ (decide (kR=([]:List UInt8))) (
 some (.s ([47]:List UInt8))) (
 some (.s kR))
def Qp:GT:=bt 169 (mb D8) Ms
theorem N6:SG Qp:=kQ K4 [] 21 [] [] [(3,⟨[0],[],[(3,.sc (.k .s)),(4,.sc (.k (.i .i64)))],[(2,[(3,.sc (.k .s))])],[]⟩)] Tryz.func169 (by kernel_rfl) (dp (λ_=>by kernel_rfl))
def n9 (p:MV):Option MV:=gS p λp1=>
 bd (qn (.s p1)) λrA=>
 gT rA λvs=>
 Gm vs λx x1=>
 aQ (!decide (x1=0)) (
 some (.cj [.s ([]:List UInt8),.i .i64 x1])) (
 a7 x λlen=>
 aQ (decide ((len:Int)=0)) (
 some (.cj [.s ([]:List UInt8),.i .i64 6])) (
 a7 x λcW=>
 a7 x λdO=>
 bU (decide ((0:Int)<=0/\(0:Int)<=(c8 .i64 ((cW:Int)-1))/\(c8 .i64 ((cW:Int)-1))<=(dO:Int)))<|
 bd (D8 (.list (By (AI 0) (BY (AI (c8 .i64 ((cW:Int)-1))) x)))) λaT=>
 gS aT λx2=>
 some (.cj [.s x2,.i .i64 0])))
def Jb:GT:=bt 102 (mb n9) Qp
theorem Jc:SG Jb:=kQ N6 [] 23 [] [] [] Tryz.func102 (by kernel_rfl) (dp (λ_=>by kernel_rfl))
def vU (sA p:MV):Option MV:=gA sA λcs=>
 gC cs λm fw=>
 gL m λL=>
 gN fw<|
 gS p λp1=>
 bd (Loop (λek=>
 gC ek λm1 iT=>
 gI .i64 m1 λi=>
 gN iT<|
 a7 L λlen=>
 aQ (decide (i<(len:Int))) (
 idx L i λy=>
 gA y λdP=>
 fa dP λPath Value Version bF=>
 aQ (decide (Path=p1)) (
 some (.inr (1,[.i .i64 i]))) (
 some (.inl [.i .i64 (c8 .i64 (i+1))]))) (
 some (.inr (2,[])))) [.i .i64 0]) λp2=>
 aQ (sh p2.1 2) (
 gN p2.2<|
 some (.i .i64 (-1))) (
 bU (sh p2.1 1)<|
 gC p2.2 λm6 lk=>
 gI .i64 m6 λx=>
 gN lk<|
 some (.i .i64 x))
def aa1:GT:=bt 103 (dC vU) Jb
theorem Ty:SG aa1:=kQ Jc [] 22 [] [] [(2,⟨[1,2],[],[(5,.sc (.k (.i .i64)))],[(1,[(4,.sc (.k (.i .i64)))]),(2,[])],[]⟩)] Tryz.func103 (by kernel_rfl) (bl (λ_ _=>by kernel_rfl))
def Bw (a:MV):Option MV:=gA a λcs=>
 gC cs λm fw=>
 gL m λL=>
 gN fw<|
 bd (
 a7 L λlen=>
 aQ (decide ((len:Int)<1)) (
 some [.b true]) (
 a7 L λcW=>
 some [.b (decide ((200:Int)<(cW:Int)))])) λvs=>
 gC vs λm1 ek=>
 gB m1 λx=>
 gN ek<|
 aQ x (
 some (.b false)) (
 bd (Loop (λiT=>
 gC iT λm2 mn=>
 gI .i64 m2 λx1=>
 gN mn<|
 a7 L λdO=>
 aQ (decide (x1<(dO:Int))) (
 idx L x1 λy=>
 gA y λdP=>
 fa dP λPath Value Version bF=>
 bd (
 bd (kZ (.s Path)) λrA=>
 gB rA λx2=>
 aQ (!x2) (
 some [.b true]) (
 aQ (decide ((1000:Int)<(Value.length:Int))) (
 some [.b true]) (
 aQ (decide (Version<0)) (
 some [.b true]) (
 aQ (decide ((1000000000:Int)<Version)) (
 some [.b true]) (
 aQ (decide (bF<0)) (
 some [.b true]) (
 aQ (decide ((0:Int)<x1)) (
 idx L (c8 .i64 (x1-1)) λy1=>
 gA y1 λlu=>
 fa lu λdX cT bJ pu=>
 bd (xf (.s dX) (.s Path)) λaT=>
 gB aT λx3=>
 some [.b (!x3)]) (
 some [.b false]))))))) λiM=>
 gC iM λKX rr=>
 gB KX λx4=>
 gN rr<|
 aQ x4 (
 some (.inr (1,[.b false]))) (
 bd (n9 (.s Path)) λca=>
 gT ca λoO=>
 jSI oO λx5 x6=>
 aQ (!decide (x6=0)) (
 aQ (!decide (bF=0)) (
 some (.inr (1,[.b false]))) (
 some (.inl [.i .i64 (c8 .i64 (x1+1))]))) (
 bd (vU (.agg [.list L]) (.s x5)) λgO=>
 gI .i64 gO λx7=>
 bd (
 aQ (decide (x7<0)) (
 some [.b true]) (
 idx L x7 λy2=>
 gA y2 λlZ=>
 fa lZ λtW ll ft Av=>
 some [.b (!decide (Av=0))])) λTx=>
 gC Tx λm18 D5=>
 gB m18 λx8=>
 gN D5<|
 aQ x8 (
 some (.inr (1,[.b false]))) (
 some (.inl [.i .i64 (c8 .i64 (x1+1))]))))) (
 some (.inr (2,[])))) [.i .i64 0]) λp=>
 aQ (sh p.1 2) (
 gN p.2<|
 bd (vU (.agg [.list L]) (.s ([47]:List UInt8))) λoP=>
 gI .i64 oP λx9=>
 some (.b (decide (x9=0)))) (
 bU (sh p.1 1)<|
 gC p.2 λm19 ik=>
 gB m19 λpq=>
 gN ik<|
 some (.b pq)))
def Mt:GT:=bt 55 (mb Bw) aa1
theorem K5:SG Mt:=sb Ty [] [] 100 [] [] [] [(7,[0,1,2,3,4,5,6,7,8,9,10,11,12,13,14,15,16,17,18,19,20,21,22,23,24,25,26,27,28,29,30,31,32,33,34,35,36,37,38,39,40,41])] [(14,⟨[1,3,7],[],[],[(0,[(96,.sc (.k .b))])],[]⟩),(7,⟨[1,3,4],[],[],[(0,[(71,.sc (.k .b))])],[]⟩),(1,⟨[1],[],[],[(0,[(17,.sc (.k .b))])],[]⟩)] [] [(4,⟨[1],[],[(3,.sc (.k (.i .i64)))],[(1,[(2,.sc (.k .b))]),(2,[])],[]⟩)] [] Tryz.func55 (by kernel_rfl) (dp (λ_=>by kernel_rfl))
def Bx (a:MV):Option MV:=gA a λcs=>
 Hs cs λct L=>
 bd (
 aQ (decide (ct<0)) (
 some [.b true]) (
 aQ (decide ((1000000000:Int)<ct)) (
 some [.b true]) (
 a7 L λlen=>
 some [.b (decide ((50:Int)<(len:Int)))]))) λvs=>
 gC vs λm2 iT=>
 gB m2 λx=>
 gN iT<|
 aQ x (
 some (.b false)) (
 bd (Loop (λmn=>
 gC mn λm3 n8=>
 gI .i64 m3 λx1=>
 gN n8<|
 a7 L λcW=>
 aQ (decide (x1<(cW:Int))) (
 idx L x1 λy=>
 gA y λdP=>
 vT dP λId Span cF=>
 bd (
 aQ (decide (Id<1)) (
 some [.b true]) (
 aQ (decide (Span<1)) (
 some [.b true]) (
 aQ (decide ((1000:Int)<Span)) (
 some [.b true]) (
 aQ (decide (cF<=ct)) (
 some [.b true]) (
 aQ (decide ((c8 .i64 (ct+Span))<cF)) (
 some [.b true]) (
 aQ (decide ((0:Int)<x1)) (
 idx L (c8 .i64 (x1-1)) λy1=>
 gA y1 λlu=>
 vT lu λSa pT rS=>
 some [.b (decide (Id<=Sa))]) (
 some [.b false]))))))) λiM=>
 gC iM λN3 tY=>
 gB N3 λx2=>
 gN tY<|
 aQ x2 (
 some (.inr (1,[.b false]))) (
 some (.inl [.i .i64 (c8 .i64 (x1+1))]))) (
 some (.inr (2,[])))) [.i .i64 0]) λp=>
 aQ (sh p.1 2) (
 gN p.2<|
 some (.b true)) (
 bU (sh p.1 1)<|
 gC p.2 λKX rr=>
 gB KX λx3=>
 gN rr<|
 some (.b x3)))
def Mu:GT:=bt 56 (mb Bx) Mt
theorem K6:SG Mu:=sb K5 [] [] 77 [] [] [] [(7,[0,1,2,3,4,5,6,7,8,9,10,11,12,13,14,15,16,17,18,19,20,21,22,23,24,25,26,27,28,29,30,31,32,33,34,35,36,37,38,39,40,41,42,43,44,45])] [(7,⟨[1,3,4],[],[],[(0,[(76,.sc (.k .b))])],[]⟩),(1,⟨[1],[],[],[(0,[(18,.sc (.k .b))])],[]⟩)] [] [(4,⟨[1],[],[(3,.sc (.k (.i .i64)))],[(1,[(2,.sc (.k .b))]),(2,[])],[]⟩)] [] Tryz.func56 (by kernel_rfl) (dp (λ_=>by kernel_rfl))
def D9 (lA w:MV):Option MV:=gL lA λtX=>
 gA w λcs=>
 vS cs λPath Client Kids=>
 bd (Loop (λmn=>
 gC mn λm3 n8=>
 gI .i64 m3 λi=>
 gN n8<|
 a7 tX λlen=>
 aQ (decide (i<(len:Int))) (
 idx tX i λy=>
 gA y λdP=>
 vS dP λdX ck Ea=>
 aQ ((decide (dX=Path))&&((decide (ck=Client))&&(decide (Ea=Kids)))) (
 some (.inr (1,[.b true]))) (
 some (.inl [.i .i64 (c8 .i64 (i+1))]))) (
 some (.inr (2,[])))) [.i .i64 0]) λp=>
 aQ (sh p.1 2) (
 gN p.2<|
 some (.b false)) (
 bU (sh p.1 1)<|
 gC p.2 λm7 ml=>
 gB m7 λx=>
 gN ml<|
 some (.b x))
def Vv:GT:=bt 104 (dC D9) Mu
theorem Qq:SG Vv:=sb K6 [] [] 18 [] [] [] [(4,[0,1,2,3,4,5])] [] [] [(2,⟨[0,3],[],[(5,.sc (.k (.i .i64)))],[(1,[(4,.sc (.k .b))]),(2,[])],[]⟩)] [] Tryz.func104 (by kernel_rfl) (bl (λ_ _=>by kernel_rfl))
def Bz (t:MV):Option MV:=gA t λcs=>
 gC cs λm fw=>
 gL m λL=>
 gN fw<|
 bd (Loop (λek=>
 gC ek λm1 iT=>
 gI .i64 m1 λi=>
 gN iT<|
 a7 L λlen=>
 aQ (decide (i<(len:Int))) (
 bd (
 idx L i λy=>
 gA y λdP=>
 vS dP λPath Client Kids=>
 bd (kZ (.s Path)) λrA=>
 gB rA λx=>
 aQ (!x) (
 some [.b true]) (
 idx L i λy1=>
 gA y1 λlu=>
 vS lu λdX ck Ea=>
 aQ (decide (ck<0)) (
 some [.b true]) (
 a7 L λcW=>
 bU (decide ((0:Int)<=0/\(0:Int)<=i/\i<=(cW:Int)))<|
 idx L i λy2=>
 gA y2 λlZ=>
 vS lZ λtW nQ Vw=>
 bd (D9 (.list (By (AI 0) (BY (AI i) L))) (.agg [.s tW,.i .i64 nQ,.b Vw])) λaT=>
 gB aT λx1=>
 some [.b x1]))) λvs=>
 gC vs λKX rr=>
 gB KX λx2=>
 gN rr<|
 aQ x2 (
 some (.inr (1,[.b false]))) (
 some (.inl [.i .i64 (c8 .i64 (i+1))]))) (
 some (.inr (2,[])))) [.i .i64 0]) λp=>
 aQ (sh p.1 2) (
 gN p.2<|
 a7 L λdO=>
 some (.b (decide ((dO:Int)<=200)))) (
 bU (sh p.1 1)<|
 gC p.2 λm12 tZ=>
 gB m12 λx3=>
 gN tZ<|
 some (.b x3))
def Mv:GT:=bt 57 (mb Bz) Vv
theorem K7:SG Mv:=sb Qq [] [] 44 [] [] [] [(4,[0,1,2,3,4,5,6,7,8,9,10,11,12,13,14,15,16,17,18,19,20,21,22,23,24,25,26,27,28])] [(4,⟨[1,3],[],[],[(0,[(39,.sc (.k .b))])],[]⟩)] [] [(2,⟨[1],[],[(3,.sc (.k (.i .i64)))],[(1,[(2,.sc (.k .b))]),(2,[])],[]⟩)] [] Tryz.func57 (by kernel_rfl) (dp (λ_=>by kernel_rfl))
def BA (a:MV):Option MV:=gA a λcs=>
 fI cs λbW bN dg b7 Seen=>
 bd (
 bd (Bw (.agg [.list bW])) λrA=>
 gB rA λx=>
 aQ (!x) (
 some [.b true]) (
 bd (Bx (.agg [.i .i64 bN,.list dg])) λaT=>
 gB aT λx1=>
 aQ (!x1) (
 some [.b true]) (
 bd (Bz (.agg [.list b7])) λca=>
 gB ca λx2=>
 aQ (!x2) (
 some [.b true]) (
 a7 Seen λlen=>
 some [.b (decide ((50:Int)<(len:Int)))])))) λvs=>
 gC vs λm5 lj=>
 gB m5 λx3=>
 gN lj<|
 aQ x3 (
 some (.b false)) (
 bd (Loop (λni=>
 gC ni λm6 lk=>
 gI .i64 m6 λx4=>
 gN lk<|
 a7 Seen λcW=>
 aQ (decide (x4<(cW:Int))) (
 idx Seen x4 λy=>
 gA y λdP=>
 cv dP λClient Seq E Value Version Names=>
 bd (
 aQ (decide (Client<0)) (
 some [.b true]) (
 aQ (decide ((1000:Int)<Client)) (
 some [.b true]) (
 aQ (decide (Seq<1)) (
 some [.b true]) (
 aQ (decide ((0:Int)<x4)) (
 idx Seen (c8 .i64 (x4-1)) λy1=>
 gA y1 λlu=>
 cv lu λck mO E1 cT bJ iS=>
 some [.b (decide (Client<=ck))]) (
 some [.b false]))))) λiM=>
 gC iM λm19 ik=>
 gB m19 λx5=>
 gN ik<|
 aQ x5 (
 some (.inr (1,[.b false]))) (
 some (.inl [.i .i64 (c8 .i64 (x4+1))]))) (
 some (.inr (2,[])))) [.i .i64 0]) λp=>
 aQ (sh p.1 2) (
 gN p.2<|
 some (.b true)) (
 bU (sh p.1 1)<|
 gC p.2 λB5 pw=>
 gB B5 λx6=>
 gN pw<|
 some (.b x6)))
def Mw:GT:=bt 15 (mb BA) Mv
theorem K8:SG Mw:=sb K7 [] [] 68 [] [] [] [(7,[0,1,2,3,4,5,6,7,8,9,10,11,12,13,14,15,16,17,18,19,20,21,22,23,24,25,26,27,28])] [(7,⟨[1,3,4],[],[],[(0,[(67,.sc (.k .b))])],[]⟩),(1,⟨[1],[],[],[(0,[(26,.sc (.k .b))])],[]⟩)] [] [(4,⟨[1],[],[(3,.sc (.k (.i .i64)))],[(1,[(2,.sc (.k .b))]),(2,[])],[]⟩)] [] Tryz.func15 (by kernel_rfl) (dp (λ_=>by kernel_rfl))
def Aw (rA:MV):Option MV:=gA rA λcs=>
 cv cs λClient Seq E Value Version Names=>
 some (.agg (bR Client Seq E Value Version Names))
def Qr:GT:=bt 23 (mb Aw) Mw
theorem N7:SG Qr:=kQ K8 [] 16 [] [] [] Tryz.func23 (by kernel_rfl) (dp (λ_=>by kernel_rfl))
def vg (lA:MV):Option MV:=gL lA λtX=>
 bd (Loop (λfw=>
 Gm fw λout i=>
 a7 tX λlen=>
 aQ (decide (i<(len:Int))) (
 idx tX i λy=>
 gA y λcs=>
 cv cs λClient Seq E Value Version Names=>
 bd (Aw (.agg (bR Client Seq E Value Version Names))) λrA=>
 gA rA λdP=>
 cv dP λck mO E1 cT bJ iS=>
 a7 out λcW=>
 a7 ([.agg (bR ck mO E1 cT bJ iS)]:List MV) λdO=>
 bU (decide ((cW+dO) *72<=2^46))<|
 some (.inl [.list (out++([.agg (bR ck mO E1 cT bJ iS)]:List MV)),.i .i64 (c8 .i64 (i+1))])) (
 some (.inr (2,[.list out])))) [.list ([]:List MV),.i .i64 0]) λp=>
 bU (sh p.1 2)<|
 gC p.2 λm14 Eb=>
 gL m14 λkR=>
 gN Eb<|
 some (.list kR)
def Gr:GT:=bt 33 (mb vg) Qr
theorem GW:SG Gr:=sb N7 [] [] 21 [18] [] [] [] [] [] [(3,⟨[0],[],[(3,.sc (.own 5 61 true)),(4,.sc (.k (.i .i64)))],[(2,[(3,.sc (.own 5 61 true))])],[5]⟩)] [] Tryz.func33 (by kernel_rfl) (dp (λ_=>by kernel_rfl))
def qo (a:MV):Option MV:=gA a λcs=>
 fI cs λbW bN dg b7 Seen=>
 bd (vg (.list Seen)) λrA=>
 gL rA λx=>
 bd (Loop (λlj=>
 gC lj λm5 ni=>
 gL m5 λxs=>
 gC ni λm6 lk=>
 gI .i64 m6 λx1=>
 gC lk λm7 ml=>
 gL m7 λzL=>
 KY ml λJd x2 x3=>
 a7 bW λlen=>
 aQ (decide (x3<(len:Int))) (
 idx bW x3 λy=>
 gA y λdP=>
 fa dP λPath Value Version bF=>
 a7 xs λcW=>
 a7 ([.agg (fq Path Value Version bF)]:List MV) λdO=>
 bU (decide ((cW+dO) *48<=2^46))<|
 some (.inl (sH (xs++([.agg (fq Path Value Version bF)]:List MV)) x1 zL Jd x2 (c8 .i64 (x3+1))))) (
 some (.inr (2,(cD xs x1 zL Jd x2))))) (sH ([]:List MV) bN ([]:List MV) ([]:List MV) x 0)) λp=>
 bU (sh p.1 2)<|
 I3 .i64 p.2 λYq x4 xs4 xs5 x5=>
 bd (Loop (λpw=>
 gC pw λB5 rq=>
 gL B5 λxs6=>
 gC rq λQs pv=>
 gI .i64 Qs λx6=>
 gC pv λTz Ax=>
 gL Tz λxs7=>
 KY Ax λxs8 x7 x8=>
 a7 dg λjJ=>
 aQ (decide (x8<(jJ:Int))) (
 idx dg x8 λy1=>
 gA y1 λlu=>
 vT lu λId Span cF=>
 a7 xs7 λlO=>
 a7 ([.agg [.i .i64 Id,.i .i64 Span,.i .i64 cF]]:List MV) λym=>
 bU (decide ((lO+ym) *24<=2^46))<|
 some (.inl (sH xs6 x6 (xs7++([.agg [.i .i64 Id,.i .i64 Span,.i .i64 cF]]:List MV)) xs8 x7 (c8 .i64 (x8+1))))) (
 some (.inr (4,(cD xs6 x6 xs7 xs8 x7))))) (sH Yq x4 xs4 xs5 x5 0)) λp1=>
 bU (sh p1.1 4)<|
 I3 .i64 p1.2 λxs9 x9 aiD aiE pq=>
 bd (Loop (λI6=>
 gC I6 λm34 xe=>
 gL m34 λaa2=>
 gC xe λm35 DX=>
 gI .i64 m35 λrn=>
 gC DX λm36 Je=>
 gL m36 λaex=>
 KY Je λaa3 zK zw=>
 a7 b7 λAu=>
 aQ (decide (zw<(Au:Int))) (
 idx b7 zw λy2=>
 gA y2 λlZ=>
 vS lZ λdX Client Kids=>
 a7 aa3 λI5=>
 a7 ([.agg [.s dX,.i .i64 Client,.b Kids]]:List MV) λaiB=>
 bU (decide ((I5+aiB) *32<=2^46))<|
 some (.inl (sH aa2 rn aex (aa3++([.agg [.s dX,.i .i64 Client,.b Kids]]:List MV)) zK (c8 .i64 (zw+1))))) (
 some (.inr (6,(cD aa2 rn aex aa3 zK))))) (sH xs9 x9 aiD aiE pq 0)) λp2=>
 bU (sh p2.1 6)<|
 I3 .i64 p2.2 λaiF DW apK apL CU=>
 some (.agg (cD aiF DW apK apL CU))
def Mx:GT:=bt 16 (mb qo) Gr
theorem K9:SG Mx:=sb GW [] [] 105 [44,72,100] [] [] [(1,[0,1,2,3,4,5,6,7,8,9])] [] [] [(13,⟨[1,2],[3002000,3002002,3002003,3002004],[(3,.box [.own 3017000 124 true,.k (.i .i64),.own 3013001 127 true,.own 3017003 128 true,.k .l]),(8,.sc (.k (.i .i64)))],[(6,[(3,.box [.own 3017000 124 true,.k (.i .i64),.own 3013001 127 true,.own 3017003 128 true,.k .l])])],[3002000,3002002,3002003,3002004,3013001,3017000,3017003]⟩),(8,⟨[1,2],[3002000,3002002,3002003,3002004],[(3,.box [.own 3017000 124 true,.k (.i .i64),.own 3013001 127 true,.own 3017003 128 true,.k .l]),(6,.sc (.k (.i .i64)))],[(4,[(3,.box [.own 3017000 124 true,.k (.i .i64),.own 3013001 127 true,.own 3017003 128 true,.k .l])])],[3002000,3002002,3002003,3002004,3013001,3017000,3017003]⟩),(3,⟨[1,2],[3002000,3002002,3002003,3002004],[(3,.box [.own 3017000 124 true,.k (.i .i64),.own 3013001 127 true,.own 3017003 128 true,.k .l]),(4,.sc (.k (.i .i64)))],[(2,[(3,.box [.own 3017000 124 true,.k (.i .i64),.own 3013001 127 true,.own 3017003 128 true,.k .l])])],[3002000,3002002,3002003,3002004,3013001,3017000,3017003]⟩)] [] Tryz.func16 (by kernel_rfl) (dp (λ_=>by kernel_rfl))
def nR (o:MV):Option MV:=gA o λcs=>
 gU cs λClient Seq Kind Path Value Version Session Span=>
 aQ (decide (Kind=1)) (
 some (.agg (dB Client Seq Kind Path Value 0 Session 0))) (
 bd (
 aQ (decide (Kind=2)) (
 some (0,[.b (decide (Kind=2))])) (
 bd (
 aQ (decide (Kind=5)) (
 some (0,[.b (decide (Kind=5))])) (
 bd (
 aQ (decide (Kind=10)) (
 some (0,[.b (decide (Kind=10))])) (
 some (0,[.b (decide (Kind=11))]))) λp2=>
 bU (sh p2.1 0)<|
 gC p2.2 λm8 ml=>
 gB m8 λx=>
 gN ml<|
 some (0,[.b x]))) λp1=>
 bU (sh p1.1 0)<|
 gC p1.2 λm9 yo=>
 gB m9 λx1=>
 gN yo<|
 some (0,[.b x1]))) λp=>
 bU (sh p.1 0)<|
 gC p.2 λN3 nz=>
 gB N3 λx2=>
 gN nz<|
 aQ x2 (
 some (.agg (dB Client Seq Kind Path ([]:List UInt8) 0 0 0))) (
 aQ (decide (Kind=3)) (
 some (.agg (dB Client Seq Kind Path Value Version 0 0))) (
 aQ (decide (Kind=4)) (
 some (.agg (dB Client Seq Kind Path ([]:List UInt8) Version 0 0))) (
 aQ (decide (Kind=6)) (
 some (.agg (dB Client Seq Kind ([]:List UInt8) ([]:List UInt8) 0 Session Span))) (
 bd (
 aQ (decide (Kind=7)) (
 some (0,[.b (decide (Kind=7))])) (
 some (0,[.b (decide (Kind=8))]))) λp3=>
 bU (sh p3.1 0)<|
 gC p3.2 λKX tY=>
 gB KX λx3=>
 gN tY<|
 aQ x3 (
 some (.agg (dB Client Seq Kind ([]:List UInt8) ([]:List UInt8) 0 Session 0))) (
 aQ (decide (Kind=9)) (
 some (.agg (dB Client Seq Kind ([]:List UInt8) ([]:List UInt8) 0 0 Span))) (
 some (.agg (dB Client Seq Kind ([]:List UInt8) ([]:List UInt8) 0 0 0)))))))))
def zh:GT:=bt 81 (mb nR) Mx
theorem B6:SG zh:=sb K9 [] [] 62 [] [34,36,49] [(1,[1])] [(14,[0,1,2,3,4,5,6,7,8,9,10,11]),(17,[0,1,2,3,4,5,6,7])] [] [(12,⟨[1,2,3,12],[],[],[(0,[(26,.sc (.k .b))])],[]⟩),(7,⟨[1,2,3,12],[],[],[(0,[(15,.sc (.k .b))])],[]⟩),(6,⟨[1,2,3,12],[],[],[(0,[(15,.sc (.k .b))])],[]⟩),(5,⟨[1,2,3,12],[],[],[(0,[(15,.sc (.k .b))])],[]⟩)] [] [] Tryz.func81 (by kernel_rfl) (dp (λ_=>by kernel_rfl))
def BB (o:MV):Option MV:=gA o λcs=>
 gU cs λClient Seq Kind Path Value Version Session Span=>
 bd (
 aQ (decide ((0:Int)<=Client)) (
 aQ (decide (Client<=1000)) (
 aQ (decide ((1:Int)<=Seq)) (
 some [.b (decide (Seq<=1000000000))]) (
 some [.b false])) (
 some [.b false])) (
 some [.b false])) λvs=>
 gC vs λm8 ml=>
 gB m8 λwho=>
 gN ml<|
 bd (
 aQ who (
 aQ (decide ((0:Int)<=Kind)) (
 aQ (decide (Kind<=11)) (
 aQ (decide ((Path.length:Int)<=100)) (
 aQ (decide ((Value.length:Int)<=1000)) (
 bd (nR (.agg (dB Client Seq Kind Path Value Version Session Span))) λrA=>
 gA rA λdP=>
 gU dP λck mO I8 dX cT bJ DZ pT=>
 some [.b ((decide (Client=ck))&&((decide (Seq=mO))&&((decide (Kind=I8))&&((decide (Path=dX))&&((decide (Value=cT))&&((decide (Version=bJ))&&((decide (Session=DZ))&&(decide (Span=pT)))))))))]) (
 some [.b false])) (
 some [.b false])) (
 some [.b false])) (
 some [.b false])) (
 some [.b false])) λiM=>
 gC iM λTu At=>
 gB Tu λx=>
 gN At<|
 some (.b x)
def My:GT:=bt 35 (mb BB) zh
theorem La:SG My:=sb B6 [] [] 51 [] [] [] [(2,[0,1,2,3,4,5,6,7,8,9,10,11,12,13,14,15,16,17,18,19,20,21,22,23,24,25,26,27,28,29])] [(2,⟨[1,3],[],[],[(0,[(2,.sc (.k .b))])],[]⟩),(1,⟨[1],[],[],[(0,[(3,.sc (.k .b))])],[]⟩)] [] [] [] Tryz.func35 (by kernel_rfl) (dp (λ_=>by kernel_rfl))
def pz (x:MV):Option MV:=gI .i64 x λx1=>some (.b (!decide (x1=x1)))
def Ec:GT:=bt 183 (mb pz) My
theorem Fv:SG Ec:=kQ La [] 6 [] [] [] Tryz.func183 (by kernel_rfl) (dp (λ_=>by kernel_rfl))
def mq (x y:MV):Option MV:=gI .i64 x λx1=>
 gI .i64 y λy1=>
 bd (pz (.i .i64 x1)) λrA=>
 gB rA λx2=>
 bd (pz (.i .i64 y1)) λaT=>
 gB aT λx3=>
 aQ x2 (
 aQ x3 (
 some (.i .i64 0)) (
 some (.i .i64 (-1)))) (
 aQ x3 (
 some (.i .i64 1)) (
 aQ (decide (x1<y1)) (
 some (.i .i64 (-1))) (
 aQ (decide (y1<x1)) (
 some (.i .i64 1)) (
 some (.i .i64 0)))))
def Ay:GT:=bt 121 (dC mq) Ec
theorem CW:SG Ay:=kQ Fv [] 20 [] [] [] Tryz.func121 (by kernel_rfl) (bl (λ_ _=>by kernel_rfl))
def ku (x dI:MV):Option MV:=gA x λcs=>
 cv cs λClient Seq E Value Version Names=>
 gI .i64 dI λyp=>
 bd (mq (.i .i64 Client) (.i .i64 yp)) λrA=>
 gI .i64 rA λx1=>
 some (.i .i64 x1)
def oa:GT:=bt 120 (dC ku) Ay
theorem yq:SG oa:=kQ CW [] 9 [] [] [] Tryz.func120 (by kernel_rfl) (bl (λ_ _=>by kernel_rfl))
def da:GT:=oa
theorem ic (x0 x1:MV):da 120 [x0,x1]=ku x0 x1:=by kernel_rfl
def dr (x target cmp:MV):Option MV:=gL x λx1=>
 gI .i64 target λvh=>
 gR cmp λQt=>
 a7 x1 λlen=>
 bd (Loop (λfw=>
 jII fw λi j=>
 aQ (decide (i<j)) (
 bU (decide ((0:Int)<=1))<|
 idx x1 (c8 .i64 (IT (c8 .u64 (c8 .i64 (i+j))) (2^min (AI 1) (IN .u64)))) λy=>
 gA y λcs=>
 cv cs λClient Seq E Value Version Names=>
 Sd Qt λfn cap=>
 bU (!gv fn)<|
 bd (da fn ([.agg (bR Client Seq E Value Version Names),.i .i64 vh]++cap)) λrA=>
 gI .i64 rA λx2=>
 bd (
 aQ (decide (x2<0)) (
 some (0,[.i .i64 (c8 .i64 ((c8 .i64 (IT (c8 .u64 (c8 .i64 (i+j))) (2^min (AI 1) (IN .u64))))+1)),.i .i64 j])) (
 some (0,[.i .i64 i,.i .i64 (c8 .i64 (IT (c8 .u64 (c8 .i64 (i+j))) (2^min (AI 1) (IN .u64))))]))) λp1=>
 bU (sh p1.1 0)<|
 oII .i64 .i64 p1.2 λi1 j1=>
 some (.inl [.i .i64 i1,.i .i64 j1])) (
 some (.inr (2,[.i .i64 i])))) [.i .i64 0,.i .i64 (len:Int)]) λp=>
 bU (sh p.1 2)<|
 gC p.2 λN3 tY=>
 gI .i64 N3 λi2=>
 gN tY<|
 bd (
 aQ (decide (i2<(len:Int))) (
 idx x1 i2 λy1=>
 gA y1 λdP=>
 cv dP λck mO E1 cT bJ iS=>
 Sd Qt λDg uE=>
 bU (!gv Dg)<|
 bd (da Dg ([.agg (bR ck mO E1 cT bJ iS),.i .i64 vh]++uE)) λaT=>
 gI .i64 aT λx3=>
 some [.i .i64 i2,.b (decide (x3=0))]) (
 some [.i .i64 i2,.b false])) λvs=>
 Vm vs λx4 x5=>
 some (.cj [.i .i64 x4,.b x5])
def il:GT:=bt 119 (GU dr) oa
theorem lm:SG il:=kQ yq [] 49 [(8,⟨[0,1,2,8,9],[],[],[(0,[(6,.sc (.k (.i .i64))),(7,.sc (.k .b))])],[]⟩)] [(6,⟨[0,1,2,8,11],[],[],[(0,[(9,.sc (.k (.i .i64))),(10,.sc (.k (.i .i64)))])],[]⟩)] [(3,⟨[0,1,2,8],[],[(9,.sc (.k (.i .i64))),(10,.sc (.k (.i .i64)))],[(2,[(9,.sc (.k (.i .i64)))])],[]⟩)] Tryz.func119 (by kernel_rfl) (qG (λ_ _ _=>by kernel_rfl))
def j9 (rA dI:MV):Option MV:=gA rA λcs=>
 fI cs λbW bN dg b7 Seen=>
 gI .i64 dI λyp=>
 bd (dr (.list Seen) (.i .i64 yp) (.func 120 [])) λaT=>
 gT aT λvs=>
 Vm vs λx x1=>
 some (.cj [.i .i64 x,.b x1])
def xg:GT:=bt 62 (dC j9) il
theorem Az:SG xg:=kQ lm [] 12 [] [] [] Tryz.func62 (by kernel_rfl) (bl (λ_ _=>by kernel_rfl))
def ua (rA dI:MV):Option MV:=gA rA λcs=>
 fI cs λbW bN dg b7 Seen=>
 gI .i64 dI λyp=>
 bd (j9 (.agg (cD bW bN dg b7 Seen)) (.i .i64 yp)) λaT=>
 gT aT λvs=>
 Vm vs λx x1=>
 aQ (!x1) (
 some (.cj [.agg (bR 0 0 0 ([]:List UInt8) 0 ([]:List MV)),.b false])) (
 idx Seen x λy=>
 gA y λdP=>
 cv dP λClient Seq E Value Version Names=>
 some (.cj [.agg (bR Client Seq E Value Version Names),.b true]))
def Jf:GT:=bt 36 (dC ua) xg
theorem Jg:SG Jf:=kQ Az [] 22 [] [] [] Tryz.func36 (by kernel_rfl) (bl (λ_ _=>by kernel_rfl))
def mP (rA o:MV):Option MV:=gA rA λcs=>
 fI cs λbW bN dg b7 Seen=>
 gA o λdP=>
 gU dP λClient Seq Kind Path Value Version Session Span=>
 bd (ua (.agg (cD bW bN dg b7 Seen)) (.i .i64 Client)) λaT=>
 gT aT λvs=>
 gC vs λTt tZ=>
 gA Tt λlu=>
 cv lu λck mO E cT bJ Names=>
 gC tZ λB5 ik=>
 gB B5 λx=>
 gN ik<|
 bd (BB (.agg (dB Client Seq Kind Path Value Version Session Span))) λca=>
 gB ca λx1=>
 bd (
 aQ (!x1) (
 some (0,[.i .i64 0,.i .i64 0,.i .i64 0,.s ([]:List UInt8),.i .i64 0,.list ([]:List MV),.i .i64 Client,.i .i64 Seq,.i .i64 1,.s ([]:List UInt8),.i .i64 0,.list ([]:List MV)])) (
 bd (
 aQ x (
 some [.b (decide (mO=Seq))]) (
 some [.b false])) λiM=>
 gC iM λQs pw=>
 gB Qs λx2=>
 gN pw<|
 aQ x2 (
 some (1,[.i .i64 ck,.i .i64 mO,.i .i64 E,.s cT,.i .i64 bJ,.list Names,.b true])) (
 bd (
 aQ x (
 some [.b (decide (Seq<mO))]) (
 some [.b false])) λoO=>
 gC oO λTz rq=>
 gB Tz λx3=>
 gN rq<|
 bd (
 aQ x3 (
 some (0,[.i .i64 0,.i .i64 0,.i .i64 0,.s ([]:List UInt8),.i .i64 0,.list ([]:List MV),.i .i64 Client,.i .i64 Seq,.i .i64 15,.s ([]:List UInt8),.i .i64 0,.list ([]:List MV)])) (
 bd (
 aQ (!x) (
 a7 Seen λlen=>
 some [.b (decide ((50:Int)<=(len:Int)))]) (
 some [.b false])) λTx=>
 gC Tx λN8 pv=>
 gB N8 λx4=>
 gN pv<|
 aQ x4 (
 some (0,[.i .i64 0,.i .i64 0,.i .i64 0,.s ([]:List UInt8),.i .i64 0,.list ([]:List MV),.i .i64 Client,.i .i64 Seq,.i .i64 9,.s ([]:List UInt8),.i .i64 0,.list ([]:List MV)])) (
 some (1,[.i .i64 Client,.i .i64 Seq,.i .i64 0,.s ([]:List UInt8),.i .i64 0,.list ([]:List MV),.b false])))) λp1=>
 aQ (sh p1.1 0) (
 gC p1.2 λm24 Ax=>
 gI .i64 m24 λx5=>
 gC Ax λm25 Jh=>
 gI .i64 m25 λx6=>
 gC Jh λm26 Qu=>
 gI .i64 m26 λx7=>
 gC Qu λm27 aa4=>
 gS m27 λx8=>
 gC aa4 λm28 Qv=>
 gI .i64 m28 λx9=>
 gC Qv λm29 amo=>
 gL m29 λpq=>
 cv amo λrn zK zw DW CU EU=>
 some (0,[.i .i64 x5,.i .i64 x6,.i .i64 x7,.s x8,.i .i64 x9,.list pq,.i .i64 rn,.i .i64 zK,.i .i64 zw,.s DW,.i .i64 CU,.list EU])) (
 bU (sh p1.1 1)<|
 gC p1.2 λm36 I6=>
 gI .i64 m36 λFt=>
 gC I6 λm37 xe=>
 gI .i64 m37 λFu=>
 gC xe λm38 DX=>
 gI .i64 m38 λGV=>
 gC DX λm39 Je=>
 gS m39 λO7=>
 gC Je λm40 Qw=>
 gI .i64 m40 λSb=>
 O6 Qw λYr x23=>
 some (1,[.i .i64 Ft,.i .i64 Fu,.i .i64 GV,.s O7,.i .i64 Sb,.list Yr,.b x23]))))) λp=>
 aQ (sh p.1 0) (
 gC p.2 λm43 Ji=>
 gI .i64 m43 λx24=>
 gC Ji λm44 aa7=>
 gI .i64 m44 λx25=>
 gC aa7 λm45 aa8=>
 gI .i64 m45 λx26=>
 gC aa8 λm46 Qx=>
 gS m46 λx27=>
 gC Qx λm47 aa9=>
 gI .i64 m47 λx28=>
 gC aa9 λm48 Qy=>
 gL m48 λx29=>
 cv Qy λx30 x31 x32 x33 x34 x35=>
 some (.cj [.agg (bR x30 x31 x32 x33 x34 x35),.b true])) (
 bU (sh p.1 1)<|
 gC p.2 λm55 amt=>
 gI .i64 m55 λx36=>
 gC amt λm56 amu=>
 gI .i64 m56 λx37=>
 gC amu λm57 aba=>
 gI .i64 m57 λx38=>
 gC aba λm58 abb=>
 gS m58 λx39=>
 gC abb λm59 Qz=>
 gI .i64 m59 λx40=>
 O6 Qz λx41 x42=>
 some (.cj [.agg (bR x36 x37 x38 x39 x40 x41),.b x42]))
def xh:GT:=bt 58 (dC mP) Jf
theorem AA:SG xh:=kQ Jg [] 58 [(10,⟨[2,4,6,8],[],[],[(0,[(47,.sc (.k .b))])],[]⟩),(8,⟨[2,3,4,6,7,8],[],[],[(0,[(37,.sc (.k .b))])],[]⟩),(6,⟨[2,3,4,6,7,8],[],[],[(0,[(27,.sc (.k .b))])],[]⟩)] [(9,⟨[2,8],[],[],[(0,[(4,.box [.k (.i .i64),.k (.i .i64),.k (.i .i64),.k .s,.k (.i .i64),.k .l]),(6,.box [.k (.i .i64),.k (.i .i64),.k (.i .i64),.k .s,.k (.i .i64),.k .l])]),(1,[(4,.box [.k (.i .i64),.k (.i .i64),.k (.i .i64),.k .s,.k (.i .i64),.k .l]),(5,.sc (.k .b))])],[]⟩),(5,⟨[2,3,7,8],[],[],[(0,[(4,.box [.k (.i .i64),.k (.i .i64),.k (.i .i64),.k .s,.k (.i .i64),.k .l]),(6,.box [.k (.i .i64),.k (.i .i64),.k (.i .i64),.k .s,.k (.i .i64),.k .l])]),(1,[(4,.box [.k (.i .i64),.k (.i .i64),.k (.i .i64),.k .s,.k (.i .i64),.k .l]),(5,.sc (.k .b))])],[]⟩)] [] Tryz.func58 (by kernel_rfl) (bl (λ_ _=>by kernel_rfl))
def kv (w:List MV):Option MV:=bj w λdj cK eP dE jf dt nA im fb en cA cg gV dk mQ xE ez cL eA lA=>some (.e9 (.cj []) (az dj cK eP dE jf dt nA im fb en cA cg gV dk mQ xE ez cL eA lA))
def ub:GT:=bt 105 (Xj kv) xh
theorem yr:SG ub:=R8 AA 0 kg [] [(0,1000000)] 2 [] [] [] [] [] [] [] [] Tryz.func105 (by kernel_rfl) (by kernel_rfl) (tU λ_=>by kernel_rfl)
def lB (x id:MV):Option MV:=gA x λcs=>
 vT cs λId Span cF=>
 gI .i64 id λHv=>
 bd (mq (.i .i64 Id) (.i .i64 Hv)) λrA=>
 gI .i64 rA λx1=>
 some (.i .i64 x1)
def pA:GT:=bt 144 (dC lB) ub
theorem zx:SG pA:=kQ yr [] 9 [] [] [] Tryz.func144 (by kernel_rfl) (bl (λ_ _=>by kernel_rfl))
def cR:GT:=pA
theorem gJ (x0 x1:MV):cR 144 [x0,x1]=lB x0 x1:=by kernel_rfl
def db (x target cmp:MV):Option MV:=gL x λx1=>
 gI .i64 target λvh=>
 gR cmp λQt=>
 a7 x1 λlen=>
 bd (Loop (λfw=>
 jII fw λi j=>
 aQ (decide (i<j)) (
 bU (decide ((0:Int)<=1))<|
 idx x1 (c8 .i64 (IT (c8 .u64 (c8 .i64 (i+j))) (2^min (AI 1) (IN .u64)))) λy=>
 gA y λcs=>
 vT cs λId Span cF=>
 Sd Qt λfn cap=>
 bU (!gv fn)<|
 bd (cR fn ([.agg [.i .i64 Id,.i .i64 Span,.i .i64 cF],.i .i64 vh]++cap)) λrA=>
 gI .i64 rA λx2=>
 bd (
 aQ (decide (x2<0)) (
 some (0,[.i .i64 (c8 .i64 ((c8 .i64 (IT (c8 .u64 (c8 .i64 (i+j))) (2^min (AI 1) (IN .u64))))+1)),.i .i64 j])) (
 some (0,[.i .i64 i,.i .i64 (c8 .i64 (IT (c8 .u64 (c8 .i64 (i+j))) (2^min (AI 1) (IN .u64))))]))) λp1=>
 bU (sh p1.1 0)<|
 oII .i64 .i64 p1.2 λi1 j1=>
 some (.inl [.i .i64 i1,.i .i64 j1])) (
 some (.inr (2,[.i .i64 i])))) [.i .i64 0,.i .i64 (len:Int)]) λp=>
 bU (sh p.1 2)<|
 gC p.2 λm7 ml=>
 gI .i64 m7 λi2=>
 gN ml<|
 bd (
 aQ (decide (i2<(len:Int))) (
 idx x1 i2 λy1=>
 gA y1 λdP=>
 vT dP λSa pT rS=>
 Sd Qt λDg uE=>
 bU (!gv Dg)<|
 bd (cR Dg ([.agg [.i .i64 Sa,.i .i64 pT,.i .i64 rS],.i .i64 vh]++uE)) λaT=>
 gI .i64 aT λx3=>
 some [.i .i64 i2,.b (decide (x3=0))]) (
 some [.i .i64 i2,.b false])) λvs=>
 Vm vs λx4 x5=>
 some (.cj [.i .i64 x4,.b x5])
def gy:GT:=bt 143 (GU db) pA
theorem kw:SG gy:=kQ zx [] 49 [(8,⟨[0,1,2,8,9],[],[],[(0,[(6,.sc (.k (.i .i64))),(7,.sc (.k .b))])],[]⟩)] [(6,⟨[0,1,2,8,11],[],[],[(0,[(9,.sc (.k (.i .i64))),(10,.sc (.k (.i .i64)))])],[]⟩)] [(3,⟨[0,1,2,8],[],[(9,.sc (.k (.i .i64))),(10,.sc (.k (.i .i64)))],[(2,[(9,.sc (.k (.i .i64)))])],[]⟩)] Tryz.func143 (by kernel_rfl) (qG (λ_ _ _=>by kernel_rfl))
def ig (b id:MV):Option MV:=gA b λcs=>
 Hs cs λct L=>
 gI .i64 id λHv=>
 bd (db (.list L) (.i .i64 Hv) (.func 144 [])) λrA=>
 gT rA λvs=>
 Vm vs λx x1=>
 some (.cj [.i .i64 x,.b x1])
def zi:GT:=bt 82 (dC ig) gy
theorem B7:SG zi:=kQ kw [] 12 [] [] [] Tryz.func82 (by kernel_rfl) (bl (λ_ _=>by kernel_rfl))
def BC (b id:MV):Option MV:=gA b λcs=>
 Hs cs λct L=>
 gI .i64 id λHv=>
 bd (ig (.agg [.i .i64 ct,.list L]) (.i .i64 Hv)) λrA=>
 gT rA λvs=>
 Vm vs λx x1=>
 some (.b x1)
def Mz:GT:=bt 37 (dC BC) zi
theorem Lb:SG Mz:=kQ B7 [] 14 [] [] [] Tryz.func37 (by kernel_rfl) (bl (λ_ _=>by kernel_rfl))
def jb (sA dS:MV):Option MV:=gS sA λkS=>
 gS dS λkT=>
 bd (
 aQ (decide ((kT.length:Int)<=(kS.length:Int))) (
 bU (decide ((0:Int)<=0/\(0:Int)<=(kT.length:Int)/\(kT.length:Int)<=(kS.length:Int)))<|
 some [.b (decide ((By (AI 0) (BY (AI (kT.length:Int)) kS))=kT))]) (
 some [.b false])) λvs=>
 gC vs λm fw=>
 gB m λx=>
 gN fw<|
 some (.b x)
def pU:GT:=bt 251 (dC jb) Mz
theorem uF:SG pU:=kQ Lb [] 18 [(1,⟨[0,1],[],[],[(0,[(4,.sc (.k .b))])],[]⟩)] [] [] Tryz.func251 (by kernel_rfl) (bl (λ_ _=>by kernel_rfl))
def jc (sA dS:MV):Option MV:=gS sA λkS=>
 gS dS λkT=>
 bd (jb (.s kS) (.s kT)) λrA=>
 gB rA λx=>
 aQ (!x) (
 some (.cj [.s kS,.b false])) (
 bU (decide ((0:Int)<=(kT.length:Int)/\(kT.length:Int)<=(kS.length:Int)/\(kS.length:Int)<=(kS.length:Int)))<|
 some (.cj [.s (By (AI (kT.length:Int)) (BY (AI (kS.length:Int)) kS)),.b true]))
def pV:GT:=bt 232 (dC jc) pU
theorem uG:SG pV:=kQ uF [] 15 [] [] [] Tryz.func232 (by kernel_rfl) (bl (λ_ _=>by kernel_rfl))
def lC (sA dS:MV):Option MV:=gS sA λkS=>
 gS dS λkT=>
 bd (jc (.s kS) (.s kT)) λrA=>
 gT rA λvs=>
 gC vs λm fw=>
 gS m λx=>
 gC fw λm1 ek=>
 gB m1 λx1=>
 gN ek<|
 some (.cj [.s x,.b x1])
def vi:GT:=bt 193 (dC lC) pV
theorem zy:SG vi:=kQ uG [] 11 [] [] [] Tryz.func193 (by kernel_rfl) (bl (λ_ _=>by kernel_rfl))
def qJ (c:MV):Option MV:=gI .i32 c λc1=>
 bd (tl [.s ([97,98,99,100,101,102,103,104,105,106,107,108,109,110,111,112,113,114,115,116,117,118,119,120,121,122,48,49,50,51,52,53,54,55,56,57,45,95]:List UInt8),.i .i32 c1]) λrA=>
 gB rA λx=>
 some (.b (!x))
def vV:GT:=bt 237 (mb qJ) vi
theorem Ed:SG vV:=kQ zy [] 6 [] [] [] Tryz.func237 (by kernel_rfl) (dp (λ_=>by kernel_rfl))
def jx:GT:=vV
theorem rT (x0:MV):jx 237 [x0]=qJ x0:=by kernel_rfl
def nS (sA f Gl:MV):Option MV:=gS sA λkS=>
 gR f λf1=>
 gB Gl λaiM=>
 bd (Loop (λfw=>
 gC fw λm ek=>
 gL m λes=>
 gN ek<|
 aQ (KF es) (
 Sd f1 λfn cap=>
 bU (!gv fn)<|
 bd (jx fn ([.i .i32 (zQ es)]++cap)) λrA=>
 gB rA λx=>
 aQ (decide (x=aiM)) (
 some (.inr (1,[.i .i64 (r7 es)]))) (
 some (.inl [.list (CB es)]))) (
 some (.inr (2,[])))) [.list ([.s kS,.i .i64 0]:List MV)]) λp=>
 aQ (sh p.1 2) (
 gN p.2<|
 some (.i .i64 (-1))) (
 bU (sh p.1 1)<|
 gC p.2 λm1 iT=>
 gI .i64 m1 λx1=>
 gN iT<|
 some (.i .i64 x1))
def zj:GT:=bt 275 (GU nS) vV
theorem B8:SG zj:=kQ Ed [] 21 [] [] [(2,⟨[1,2],[],[(10,.mp ⟨true,[],true⟩)],[(1,[(6,.sc (.k (.i .i64)))]),(2,[])],[]⟩)] Tryz.func275 (by kernel_rfl) (qG (λ_ _ _=>by kernel_rfl))
def lD (sA f:MV):Option MV:=gS sA λkS=>
 gR f λf1=>
 bd (nS (.s kS) f1 (.b true)) λrA=>
 gI .i64 rA λx=>
 some (.i .i64 x)
def vj:GT:=bt 262 (dC lD) zj
theorem zz:SG vj:=kQ B8 [] 8 [] [] [] Tryz.func262 (by kernel_rfl) (bl (λ_ _=>by kernel_rfl))
def jy (sA f:MV):Option MV:=gS sA λkS=>
 gR f λf1=>
 bd (lD (.s kS) f1) λrA=>
 gI .i64 rA λx=>
 some (.b (decide ((0:Int)<=x)))
def ru:GT:=bt 236 (dC jy) vj
theorem vW:SG ru:=kQ zz [] 9 [] [] [] Tryz.func236 (by kernel_rfl) (bl (λ_ _=>by kernel_rfl))
def vk (sA:MV):Option MV:=gS sA λkS=>
 bd (
 aQ (!decide (kS=([]:List UInt8))) (
 aQ (decide ((kS.length:Int)<=30)) (
 bd (IU [.s kS,.s ([97,98,99,100,101,102,103,104,105,106,107,108,109,110,111,112,113,114,115,116,117,118,119,120,121,122,48,49,50,51,52,53,54,55,56,57,45,95]:List UInt8)]) λrA=>
 gS rA λx=>
 aQ (decide (x=([]:List UInt8))) (
 bd (jy (.s kS) (.func 237 [])) λaT=>
 gB aT λx1=>
 some [.b (!x1)]) (
 some [.b false])) (
 some [.b false])) (
 some [.b false])) λvs=>
 gC vs λm fw=>
 gB m λx2=>
 gN fw<|
 some (.b x2)
def Gs:GT:=bt 197 (mb vk) ru
theorem GX:SG Gs:=kQ vW [] 20 [(1,⟨[0],[],[],[(0,[(2,.sc (.k .b))])],[]⟩)] [] [] Tryz.func197 (by kernel_rfl) (dp (λ_=>by kernel_rfl))
def sI (sA:MV):Option MV:=gS sA λkS=>
 bd (vk (.s kS)) λrA=>
 gB rA λx=>
 some (.b (!x))
def yt:GT:=bt 196 (mb sI) Gs
theorem Fw:SG yt:=kQ GX [] 6 [] [] [] Tryz.func196 (by kernel_rfl) (dp (λ_=>by kernel_rfl))
def fY:GT:=yt
theorem oc (x0:MV):fY 196 [x0]=sI x0:=by kernel_rfl
def iz (sA f:MV):Option MV:=gL sA λkS=>
 gR f λf1=>
 a7 kS λlen=>
 bd (Loop (λfw=>
 gC fw λm ek=>
 gI .i64 m λx=>
 gN ek<|
 aQ (decide (x<(len:Int))) (
 idx kS x λy=>
 gS y λx1=>
 Sd f1 λfn cap=>
 bU (!gv fn)<|
 bd (fY fn ([.s x1]++cap)) λrA=>
 gB rA λx2=>
 aQ x2 (
 some (.inr (1,[.i .i64 x]))) (
 some (.inl [.i .i64 (c8 .i64 (x+1))]))) (
 some (.inr (2,[])))) [.i .i64 0]) λp=>
 aQ (sh p.1 2) (
 gN p.2<|
 some (.i .i64 (-1))) (
 bU (sh p.1 1)<|
 gC p.2 λm1 iT=>
 gI .i64 m1 λx3=>
 gN iT<|
 some (.i .i64 x3))
def pB:GT:=bt 234 (dC iz) yt
theorem uc:SG pB:=kQ Fw [] 19 [] [] [(2,⟨[0,1,7],[],[(8,.sc (.k (.i .i64)))],[(1,[(4,.sc (.k (.i .i64)))]),(2,[])],[]⟩)] Tryz.func234 (by kernel_rfl) (bl (λ_ _=>by kernel_rfl))
def fL (sA f:MV):Option MV:=gL sA λkS=>
 gR f λf1=>
 bd (iz (.list kS) f1) λrA=>
 gI .i64 rA λx=>
 some (.b (decide ((0:Int)<=x)))
def mX:GT:=bt 195 (dC fL) pB
theorem rv:SG mX:=kQ uc [] 9 [] [] [] Tryz.func195 (by kernel_rfl) (bl (λ_ _=>by kernel_rfl))
def kz (p:MV):Option MV:=gS p λp1=>
 bd (lC (.s p1) (.s ([47]:List UInt8))) λrA=>
 gT rA λvs=>
 gC vs λm fw=>
 gS m λx=>
 gC fw λm1 ek=>
 gB m1 λx1=>
 gN ek<|
 bd (
 aQ (!x1) (
 some [.b true]) (
 some [.b (decide ((100:Int)<(p1.length:Int)))])) λiM=>
 gC iM λm2 iT=>
 gB m2 λx2=>
 gN iT<|
 aQ x2 (
 some (.cj [.list ([]:List MV),.b false])) (
 aQ (decide (x=([]:List UInt8))) (
 some (.cj [.list ([]:List MV),.b true])) (
 bd (Ag [.s x,.s ([47]:List UInt8)]) λaT=>
 gF aT λxs=>
 bd (
 a7 xs λlen=>
 aQ (decide ((len:Int)<=8)) (
 bd (fL (.list xs) (.func 196 [])) λca=>
 gB ca λx3=>
 some [.list xs,.b (!x3),.list xs]) (
 some [.list xs,.b false,.list xs])) λoO=>
 gC oO λm3 mn=>
 gL m3 λzL=>
 gC mn λm4 n8=>
 gB m4 λx4=>
 gC n8 λm5 lj=>
 gL m5 λlA=>
 gN lj<|
 some (.cj [.list lA,.b x4])))
def Jj:GT:=bt 137 (mb kz) mX
theorem Jk:SG Jj:=kQ rv [] 34 [(7,⟨[],[],[],[(0,[(2,.sc (.own 24 9 true)),(3,.sc (.k .b)),(6,.sc (.own 24 9 true))])],[24]⟩),(2,⟨[0,4,5],[],[],[(0,[(12,.sc (.k .b))])],[24]⟩)] [] [] Tryz.func137 (by kernel_rfl) (dp (λ_=>by kernel_rfl))
def kU (x:MV):Option MV:=gS x λx1=>some (.b (!decide (x1=x1)))
def zk:GT:=bt 264 (mb kU) Jj
theorem B9:SG zk:=kQ Jk [] 6 [] [] [] Tryz.func264 (by kernel_rfl) (dp (λ_=>by kernel_rfl))
def lE (x y:MV):Option MV:=gS x λx1=>
 gS y λy1=>
 bd (kU (.s x1)) λrA=>
 gB rA λx2=>
 bd (kU (.s y1)) λaT=>
 gB aT λx3=>
 aQ x2 (
 aQ x3 (
 some (.i .i64 0)) (
 some (.i .i64 (-1)))) (
 aQ x3 (
 some (.i .i64 1)) (
 aQ (OF x1 y1) (
 some (.i .i64 (-1))) (
 aQ (!(OF x1 y1||decide (x1=y1))) (
 some (.i .i64 1)) (
 some (.i .i64 0)))))
def vl:GT:=bt 240 (dC lE) zk
theorem zA:SG vl:=kQ B9 [] 20 [] [] [] Tryz.func240 (by kernel_rfl) (bl (λ_ _=>by kernel_rfl))
def jz (s1 s2:MV):Option MV:=gL s1 λud=>
 gL s2 λzB=>
 a7 ud λlen=>
 bd (Loop (λfw=>
 gC fw λm ek=>
 gI .i64 m λx=>
 gN ek<|
 aQ (decide (x<(len:Int))) (
 idx ud x λy=>
 gS y λx1=>
 a7 zB λcW=>
 aQ (decide ((cW:Int)<=x)) (
 some (.inr (1,[.i .i64 1]))) (
 idx zB x λy1=>
 gS y1 λx2=>
 bd (lE (.s x1) (.s x2)) λrA=>
 gI .i64 rA λx3=>
 aQ (!decide (x3=0)) (
 some (.inr (1,[.i .i64 x3]))) (
 some (.inl [.i .i64 (c8 .i64 (x+1))])))) (
 some (.inr (2,[])))) [.i .i64 0]) λp=>
 aQ (sh p.1 2) (
 gN p.2<|
 a7 ud λdO=>
 a7 zB λjJ=>
 aQ (decide ((dO:Int)<(jJ:Int))) (
 some (.i .i64 (-1))) (
 some (.i .i64 0))) (
 bU (sh p.1 1)<|
 gC p.2 λm1 iT=>
 gI .i64 m1 λx4=>
 gN iT<|
 some (.i .i64 x4))
def rz:GT:=bt 202 (dC jz) vl
theorem vX:SG rz:=kQ zA [] 36 [] [] [(2,⟨[0,1,9,10],[],[(11,.sc (.k (.i .i64)))],[(1,[(4,.sc (.k (.i .i64)))]),(2,[])],[]⟩)] Tryz.func202 (by kernel_rfl) (bl (λ_ _=>by kernel_rfl))
def yu (p q:MV):Option MV:=gS p λp1=>
 gS q λq1=>
 bd (kz (.s p1)) λrA=>
 gT rA λvs=>
 O6 vs λx x1=>
 bd (kz (.s q1)) λaT=>
 gT aT λiM=>
 O6 iM λx2 x3=>
 bd (
 aQ x1 (
 aQ x3 (
 bd (jz (.list x) (.list x2)) λca=>
 gI .i64 ca λx4=>
 some [.b (decide (x4<0))]) (
 some [.b false])) (
 some [.b false])) λoO=>
 gC oO λm4 n8=>
 gB m4 λx5=>
 gN n8<|
 some (.b x5)
def Jl:GT:=bt 146 (dC yu) rz
theorem Jm:SG Jl:=kQ vX [] 29 [(3,⟨[5,6,7,8],[],[],[(0,[(4,.sc (.k .b))])],[]⟩)] [] [] Tryz.func146 (by kernel_rfl) (bl (λ_ _=>by kernel_rfl))
def kA (n p:MV):Option MV:=gA n λcs=>
 fa cs λPath Value Version bF=>
 gS p λp1=>
 aQ (decide (Path=p1)) (
 some (.i .i64 0)) (
 bd (yu (.s Path) (.s p1)) λrA=>
 gB rA λx=>
 aQ x (
 some (.i .i64 (-1))) (
 some (.i .i64 1)))
def od:GT:=bt 245 (dC kA) Jl
theorem yv:SG od:=kQ Jm [] 15 [] [] [] Tryz.func245 (by kernel_rfl) (bl (λ_ _=>by kernel_rfl))
def cS:GT:=od
theorem gz (x0 x1:MV):cS 245 [x0,x1]=kA x0 x1:=by kernel_rfl
def dc (x target cmp:MV):Option MV:=gL x λx1=>
 gS target λvh=>
 gR cmp λQt=>
 a7 x1 λlen=>
 bd (Loop (λfw=>
 jII fw λi j=>
 aQ (decide (i<j)) (
 bU (decide ((0:Int)<=1))<|
 idx x1 (c8 .i64 (IT (c8 .u64 (c8 .i64 (i+j))) (2^min (AI 1) (IN .u64)))) λy=>
 gA y λcs=>
 fa cs λPath Value Version bF=>
 Sd Qt λfn cap=>
 bU (!gv fn)<|
 bd (cS fn ([.agg (fq Path Value Version bF),.s vh]++cap)) λrA=>
 gI .i64 rA λx2=>
 bd (
 aQ (decide (x2<0)) (
 some (0,[.i .i64 (c8 .i64 ((c8 .i64 (IT (c8 .u64 (c8 .i64 (i+j))) (2^min (AI 1) (IN .u64))))+1)),.i .i64 j])) (
 some (0,[.i .i64 i,.i .i64 (c8 .i64 (IT (c8 .u64 (c8 .i64 (i+j))) (2^min (AI 1) (IN .u64))))]))) λp1=>
 bU (sh p1.1 0)<|
 oII .i64 .i64 p1.2 λi1 j1=>
 some (.inl [.i .i64 i1,.i .i64 j1])) (
 some (.inr (2,[.i .i64 i])))) [.i .i64 0,.i .i64 (len:Int)]) λp=>
 bU (sh p.1 2)<|
 gC p.2 λm8 yo=>
 gI .i64 m8 λi2=>
 gN yo<|
 bd (
 aQ (decide (i2<(len:Int))) (
 idx x1 i2 λy1=>
 gA y1 λdP=>
 fa dP λdX cT bJ pu=>
 Sd Qt λDg uE=>
 bU (!gv Dg)<|
 bd (cS Dg ([.agg (fq dX cT bJ pu),.s vh]++uE)) λaT=>
 gI .i64 aT λx3=>
 some [.i .i64 i2,.b (decide (x3=0))]) (
 some [.i .i64 i2,.b false])) λvs=>
 Vm vs λx4 x5=>
 some (.cj [.i .i64 x4,.b x5])
def gD:GT:=bt 244 (GU dc) od
theorem kC:SG gD:=kQ yv [] 49 [(8,⟨[0,1,2,8,9],[],[],[(0,[(6,.sc (.k (.i .i64))),(7,.sc (.k .b))])],[]⟩)] [(6,⟨[0,1,2,8,11],[],[],[(0,[(9,.sc (.k (.i .i64))),(10,.sc (.k (.i .i64)))])],[]⟩)] [(3,⟨[0,1,2,8],[],[(9,.sc (.k (.i .i64))),(10,.sc (.k (.i .i64)))],[(2,[(9,.sc (.k (.i .i64)))])],[]⟩)] Tryz.func244 (by kernel_rfl) (qG (λ_ _ _=>by kernel_rfl))
def ka (sA p:MV):Option MV:=gA sA λcs=>
 gC cs λm fw=>
 gL m λL=>
 gN fw<|
 gS p λp1=>
 bd (dc (.list L) (.s p1) (.func 245 [])) λrA=>
 gT rA λvs=>
 Vm vs λx x1=>
 some (.cj [.i .i64 x,.b x1])
def xi:GT:=bt 216 (dC ka) gD
theorem AB:SG xi:=kQ kC [] 12 [] [] [] Tryz.func216 (by kernel_rfl) (bl (λ_ _=>by kernel_rfl))
def mr (p:MV):Option MV:=gS p λp1=>
 bd (kz (.s p1)) λrA=>
 gT rA λvs=>
 O6 vs λx x1=>
 some (.b x1)
def Jn:GT:=bt 73 (mb mr) xi
theorem Jo:SG Jn:=kQ AB [] 11 [] [] [] Tryz.func73 (by kernel_rfl) (dp (λ_=>by kernel_rfl))
def eY (sA c:MV):Option MV:=gS sA λkS=>
 gI .u8 c λc1=>
 bd (Loop (λfw=>
 gC fw λm ek=>
 gI .i64 m λi=>
 gN ek<|
 aQ (decide ((0:Int)<=i)) (
 bU (decide ((0:Int)<=i/\i<(kS.length:Int)))<|
 aQ (decide (((kS.getD (AI i) 0).toNat:Int)=c1)) (
 some (.inr (1,[.i .i64 i]))) (
 some (.inl [.i .i64 (c8 .i64 (i-1))]))) (
 some (.inr (2,[])))) [.i .i64 (c8 .i64 ((kS.length:Int)-1))]) λp=>
 aQ (sh p.1 2) (
 gN p.2<|
 some (.i .i64 (-1))) (
 bU (sh p.1 1)<|
 gC p.2 λm1 iT=>
 gI .i64 m1 λx=>
 gN iT<|
 some (.i .i64 x))
def lF:GT:=bt 198 (dC eY) Jn
theorem pP:SG lF:=kQ Jo [] 19 [] [] [(2,⟨[0,1],[],[(5,.sc (.k (.i .i64)))],[(1,[(4,.sc (.k (.i .i64)))]),(2,[])],[]⟩)] Tryz.func198 (by kernel_rfl) (bl (λ_ _=>by kernel_rfl))
def fZ (sep:MV):Option MV:=gS sep λaeJ=>
 bd (Loop (λfw=>
 oII .u32 .i64 fw λhash i=>
 aQ (decide ((0:Int)<=i)) (
 bU (decide ((0:Int)<=i/\i<(aeJ.length:Int)))<|
 some (.inl [.i .u32 (c8 .u32 ((c8 .u32 (hash *16777619))+(c8 .u32 ((aeJ.getD (AI i) 0).toNat:Int)))),.i .i64 (c8 .i64 (i-1))])) (
 some (.inr (2,[.i .u32 hash])))) [.i .u32 0,.i .i64 (c8 .i64 ((aeJ.length:Int)-1))]) λp=>
 bU (sh p.1 2)<|
 gC p.2 λm2 mn=>
 gI .u32 m2 λamw=>
 gN mn<|
 bd (Loop (λn8=>
 aef .u32 .u32 .i64 n8 λpow sq i1=>
 aQ (decide ((0:Int)<i1)) (
 none) (
 some (.inr (4,[.i .u32 pow])))) [.i .u32 1,.i .u32 16777619,.i .i64 (aeJ.length:Int)]) λp1=>
 bU (sh p1.1 4)<|
 gC p1.2 λm6 ml=>
 gI .u32 m6 λapR=>
 gN ml<|
 some (.cj [.i .u32 amw,.i .u32 apR])
def nB:GT:=bt 239 (mb fZ) lF
theorem rU:SG nB:=kQ pP [] 40 [] [(11,⟨[4,7,8],[],[],[(0,[(6,.sc (.k (.i .u32)))])],[]⟩)] [(8,⟨[4],[],[(6,.sc (.k (.i .u32))),(7,.sc (.k (.i .u32))),(8,.sc (.k (.i .i64)))],[(4,[(6,.sc (.k (.i .u32)))])],[]⟩),(3,⟨[0],[],[(4,.sc (.k (.i .u32))),(5,.sc (.k (.i .i64)))],[(2,[(4,.sc (.k (.i .u32)))])],[]⟩)] Tryz.func239 (by kernel_rfl) (dp (λ_=>by kernel_rfl))
def dU (a a1:MV):Option MV:=gS a λa2=>
 gS a1 λln=>
 bd (fZ (.s ln)) λrA=>
 gT rA λvs=>
 oII .u32 .u32 vs λx x1=>
 bd (Loop (λiT=>
 oII .u32 .i64 iT λx2 x3=>
 aQ (decide ((c8 .i64 ((a2.length:Int)-(ln.length:Int)))<=x3)) (
 bU (decide ((0:Int)<=x3/\x3<(a2.length:Int)))<|
 some (.inl [.i .u32 (c8 .u32 ((c8 .u32 (x2 *16777619))+(c8 .u32 ((a2.getD (AI x3) 0).toNat:Int)))),.i .i64 (c8 .i64 (x3-1))])) (
 some (.inr (2,[.i .u32 x2])))) [.i .u32 0,.i .i64 (c8 .i64 ((a2.length:Int)-1))]) λp=>
 bU (sh p.1 2)<|
 gC p.2 λm4 lj=>
 gI .u32 m4 λx4=>
 gN lj<|
 bd (
 aQ (decide (x4=x)) (
 bU (decide ((0:Int)<=(c8 .i64 ((a2.length:Int)-(ln.length:Int)))/\(c8 .i64 ((a2.length:Int)-(ln.length:Int)))<=(a2.length:Int)/\(a2.length:Int)<=(a2.length:Int)))<|
 some [.b (decide ((By (AI (c8 .i64 ((a2.length:Int)-(ln.length:Int)))) (BY (AI (a2.length:Int)) a2))=ln))]) (
 some [.b false])) λiM=>
 gC iM λm5 ni=>
 gB m5 λx5=>
 gN ni<|
 aQ x5 (
 some (.i .i64 (c8 .i64 ((a2.length:Int)-(ln.length:Int))))) (
 bd (Loop (λlk=>
 oII .u32 .i64 lk λx6 x7=>
 aQ (decide ((0:Int)<=x7)) (
 bU (decide ((0:Int)<=x7/\x7<(a2.length:Int)))<|
 bU (decide ((0:Int)<=(c8 .i64 (x7+(ln.length:Int)))/\(c8 .i64 (x7+(ln.length:Int)))<(a2.length:Int)))<|
 bd (
 aQ (decide ((c8 .u32 ((c8 .u32 ((c8 .u32 (x6 *16777619))+(c8 .u32 ((a2.getD (AI x7) 0).toNat:Int))))-(c8 .u32 (x1 *(c8 .u32 ((a2.getD (AI (c8 .i64 (x7+(ln.length:Int)))) 0).toNat:Int))))))=x)) (
 bU (decide ((0:Int)<=x7/\x7<=(c8 .i64 (x7+(ln.length:Int)))/\(c8 .i64 (x7+(ln.length:Int)))<=(a2.length:Int)))<|
 some [.b (decide ((By (AI x7) (BY (AI (c8 .i64 (x7+(ln.length:Int)))) a2))=ln))]) (
 some [.b false])) λoO=>
 gC oO λm8 nz=>
 gB m8 λx8=>
 gN nz<|
 aQ x8 (
 some (.inr (1,[.i .i64 x7]))) (
 some (.inl [.i .u32 (c8 .u32 ((c8 .u32 ((c8 .u32 (x6 *16777619))+(c8 .u32 ((a2.getD (AI x7) 0).toNat:Int))))-(c8 .u32 (x1 *(c8 .u32 ((a2.getD (AI (c8 .i64 (x7+(ln.length:Int)))) 0).toNat:Int)))))),.i .i64 (c8 .i64 (x7-1))]))) (
 some (.inr (4,[])))) [.i .u32 x4,.i .i64 (c8 .i64 ((c8 .i64 ((a2.length:Int)-(ln.length:Int)))-1))]) λp1=>
 aQ (sh p1.1 4) (
 gN p1.2<|
 some (.i .i64 (-1))) (
 bU (sh p1.1 1)<|
 gC p1.2 λm9 tY=>
 gI .i64 m9 λx9=>
 gN tY<|
 some (.i .i64 x9)))
def jA:GT:=bt 199 (dC dU) nB
theorem nj:SG jA:=kQ rU [] 87 [(17,⟨[0,1,5,6,7,9,11],[],[],[(0,[(85,.sc (.k .b))])],[]⟩),(9,⟨[0,1,5,6,7,8,9],[],[],[(0,[(47,.sc (.k .b))])],[]⟩)] [] [(12,⟨[0,1,5,6,7],[],[(9,.sc (.k (.i .u32))),(11,.sc (.k (.i .i64)))],[(1,[(4,.sc (.k (.i .i64)))]),(4,[])],[]⟩),(6,⟨[0,1,5,6,7,8],[],[(9,.sc (.k (.i .u32))),(10,.sc (.k (.i .i64)))],[(2,[(9,.sc (.k (.i .u32)))])],[]⟩)] Tryz.func199 (by kernel_rfl) (bl (λ_ _=>by kernel_rfl))
def lG (sA substr:MV):Option MV:=gS sA λkS=>
 gS substr λvm=>
 aQ (decide ((vm.length:Int)=0)) (
 some (.i .i64 (kS.length:Int))) (
 aQ (decide ((vm.length:Int)=1)) (
 bU (decide ((0:Int)<=0/\(0:Int)<(vm.length:Int)))<|
 bd (eY (.s kS) (.i .u8 ((vm.getD (AI 0) 0).toNat:Int))) λrA=>
 gI .i64 rA λx=>
 some (.i .i64 x)) (
 aQ (decide ((vm.length:Int)=(kS.length:Int))) (
 aQ (decide (vm=kS)) (
 some (.i .i64 0)) (
 some (.i .i64 (-1)))) (
 aQ (decide ((kS.length:Int)<(vm.length:Int))) (
 some (.i .i64 (-1))) (
 bd (dU (.s kS) (.s vm)) λaT=>
 gI .i64 aT λx1=>
 some (.i .i64 x1)))))
def vn:GT:=bt 138 (dC lG) jA
theorem zC:SG vn:=kQ nj [] 36 [] [] [] Tryz.func138 (by kernel_rfl) (bl (λ_ _=>by kernel_rfl))
def rB (p:MV):Option MV:=gS p λp1=>
 bd (mr (.s p1)) λrA=>
 gB rA λx=>
 aQ (!x) (
 some (.cj [.s ([]:List UInt8),.i .i64 13])) (
 aQ (decide (p1=([47]:List UInt8))) (
 some (.cj [.s ([]:List UInt8),.i .i64 6])) (
 bd (lG (.s p1) (.s ([47]:List UInt8))) λaT=>
 gI .i64 aT λx1=>
 bU (decide ((0:Int)<=0/\(0:Int)<=(imax 1 x1)/\(imax 1 x1)<=(p1.length:Int)))<|
 some (.cj [.s (By (AI 0) (BY (AI (imax 1 x1)) p1)),.i .i64 0])))
def Gt:GT:=bt 74 (mb rB) vn
theorem GY:SG Gt:=kQ zC [] 16 [] [] [] Tryz.func74 (by kernel_rfl) (dp (λ_=>by kernel_rfl))
def ji (sA p:MV):Option MV:=gA sA λcs=>
 gC cs λm fw=>
 gL m λL=>
 gN fw<|
 gS p λp1=>
 bd (mr (.s p1)) λrA=>
 gB rA λx=>
 aQ (!x) (
 some (.cj [.i .i64 0,.i .i64 13])) (
 bd (ka (.agg [.list L]) (.s p1)) λaT=>
 gT aT λvs=>
 Vm vs λx1 x2=>
 aQ (!x2) (
 some (.cj [.i .i64 0,.i .i64 6])) (
 some (.cj [.i .i64 x1,.i .i64 0])))
def zl:GT:=bt 220 (dC ji) Gt
theorem Ca:SG zl:=kQ GY [] 20 [] [] [] Tryz.func220 (by kernel_rfl) (bl (λ_ _=>by kernel_rfl))
def s8 (sA p:MV):Option MV:=gA sA λcs=>
 gC cs λm fw=>
 gL m λL=>
 gN fw<|
 gS p λp1=>
 bd (ji (.agg [.list L]) (.s p1)) λrA=>
 gT rA λvs=>
 jII vs λx x1=>
 aQ (!decide (x1=0)) (
 some (.cj [.agg (fq ([]:List UInt8) ([]:List UInt8) 0 0),.i .i64 x1])) (
 idx L x λy=>
 gA y λdP=>
 fa dP λPath Value Version bF=>
 some (.cj [.agg (fq Path Value Version bF),.i .i64 0]))
def MA:GT:=bt 172 (dC s8) zl
theorem Lc:SG MA:=kQ Ca [] 23 [] [] [] Tryz.func172 (by kernel_rfl) (bl (λ_ _=>by kernel_rfl))
def pC (c c1 c2 c3 c4:MV):Option MV:=gP c λcs=>
 gC cs λm fw=>
 gS m λx=>
 gN fw<|
 gP c1 λdP=>
 gC dP λm1 ek=>
 gB m1 λx1=>
 gN ek<|
 gP c2 λlu=>
 gC lu λm2 iT=>
 gL m2 λL=>
 gN iT<|
 gP c3 λlZ=>
 gC lZ λm3 mn=>
 gS m3 λx2=>
 gN mn<|
 gP c4 λKZ=>
 gC KZ λm4 n8=>
 gI .i64 m4 λx3=>
 gN n8<|
 bd (mr (.s x)) λrA=>
 gB rA λx4=>
 aQ (!x4) (
 some (.i .i64 13)) (
 aQ x1 (
 some (.i .i64 7)) (
 bd (rB (.s x)) λaT=>
 gT aT λvs=>
 jSI vs λx5 x6=>
 bd (s8 (.agg [.list L]) (.s x5)) λca=>
 gT ca λiM=>
 gC iM λm7 lk=>
 gA m7 λTv=>
 fa Tv λPath Value Version bF=>
 gC lk λm12 rr=>
 gI .i64 m12 λx7=>
 gN rr<|
 aQ (!decide (x7=0)) (
 some (.i .i64 6)) (
 aQ (!decide (bF=0)) (
 some (.i .i64 10)) (
 aQ (decide ((1000:Int)<(x2.length:Int))) (
 some (.i .i64 5)) (
 aQ (decide (x3<0)) (
 some (.i .i64 1)) (
 a7 L λlen=>
 aQ (decide ((200:Int)<=(len:Int))) (
 some (.i .i64 9)) (
 some (.i .i64 0))))))))
def AD:GT:=bt 217 (aii pC) MA
theorem CX:SG AD:=kQ Lc [[.s],[.b],[.l],[.s],[.i .i64]] 44 [] [] [] Tryz.func217 (by kernel_rfl) (ad3 (λ_ _ _ _ _=>by kernel_rfl))
def sJ (sA p value owner:MV):Option MV:=gA sA λcs=>
 gC cs λm fw=>
 gL m λL=>
 gN fw<|
 gS p λp1=>
 gS value λue=>
 gI .i64 owner λyw=>
 bd (ka (.agg [.list L]) (.s p1)) λrA=>
 gT rA λvs=>
 Vm vs λx x1=>
 bd (pC (.rp [.s p1]) (.rp [.b x1]) (.rp [.list L]) (.rp [.s ue]) (.rp [.i .i64 yw])) λaT=>
 gI .i64 aT λx2=>
 aQ (!decide (x2=0)) (
 some (.cj [.agg [.list L],.i .i64 x2])) (
 both (
 bd (iu 4 48 [.list L]) λca=>
 gF ca λxs=>
 bd (ko 48 [.fresh xs,.i .i64 x,.fresh ([.agg (fq p1 ue 0 yw)]:List MV)]) λgO=>
 gF gO λzL=>
 some (.cj [.agg [.list zL],.i .i64 0])) (
 bd (iu 4 48 [.list L]) λoP=>
 gF oP λJd=>
 bd (ko 48 [.fresh Jd,.i .i64 x,.fresh ([.agg (fq p1 ue 0 yw)]:List MV)]) λrR=>
 gF rR λYq=>
 some (.cj [.agg [.list Yq],.i .i64 0])))
def Ee:GT:=bt 170 (WX sJ) AD
theorem Fx:SG Ee:=sb CX [] [] 38 [] [] [] [(6,[0,1,3,4,5,6,7,2,8,9,10,11,12,0,1,3,4,5,6,7,8,2,9,10,11,12,2,8])] [] [] [] [] Tryz.func170 (by kernel_rfl) (Ho (λ_ _ _ _=>by kernel_rfl))
def fX (w:List MV)(kind:MV):Option MV:=gI .i64 kind λpW=>
 bj w λdj cK eP dE jf dt nA im fb en cA cg gV dk mQ xE ez cL eA lA=>
 bd (
 aQ (decide (xE=0)) (
 a7 lA λlen=>
 a7 ([.agg [.i .i64 pW,.s fb]]:List MV) λcW=>
 bU (decide ((len+cW) *24<=2^46))<|
 some (0,(az dj cK eP dE jf dt nA im fb en cA cg gV dk mQ xE ez cL eA (lA++([.agg [.i .i64 pW,.s fb]]:List MV))))) (
 some (0,(az dj cK eP dE jf dt nA im fb en cA cg gV dk mQ xE ez cL eA lA)))) λp=>
 bU (sh p.1 0)<|
 dn .i64 .i64 .i64 .i64 .i64 .i64 .i64 .i64 .i64 .i64 .i64 p.2 λx x1 x2 x3 x4 x5 x6 x7 x8 x9 pq rn zK zw DW CU EU Ft Fu xs=>
 some (.e9 (.cj []) (az x x1 x2 x3 x4 x5 x6 x7 x8 x9 pq rn zK zw DW CU EU Ft Fu xs))
def uf:GT:=bt 171 (cl2 fX) Ee
theorem yx:SG uf:=R8 Fx 0 kg [] [(0,1000000)] 26 [22] [] [] [(1,[0,1,2,3,4,5,6,7,8,9,10,11,12,13,14,15,16])] [] [(1,⟨[0,1],[],[],[(0,[(1000000,.box [.k .l,.k (.i .i64),.k .l,.k .l,.k .l,.k (.i .i64),.k (.i .i64),.k (.i .i64),.k .s,.k .s,.k (.i .i64),.k (.i .i64),.k (.i .i64),.k (.i .i64),.k (.i .i64),.k (.i .i64),.k .s,.k (.i .i64),.k .l,.own 2000019 77 false])])],[]⟩)] [] [] Tryz.func171 (by kernel_rfl) (by kernel_rfl) (aaW λ_ _=>by kernel_rfl)
def lH (w:List MV):Option MV:=bj w λdj cK eP dE jf dt nA im fb en cA cg gV dk mQ xE ez cL eA lA=>
 bd (
 aQ (!decide (cg=0)) (
 bd (BC (.agg [.i .i64 cK,.list eP]) (.i .i64 cg)) λrA=>
 gB rA λx=>
 some [.b (!x)]) (
 some [.b false])) λvs=>
 gC vs λB5 ik=>
 gB B5 λx1=>
 gN ik<|
 aQ x1 (
 some (.e9 (.cj []) (az dj cK eP dE jf dt nA im fb en cA cg gV dk mQ 14 ez cL eA lA))) (
 bd (sJ (.agg [.list dj]) (.s fb) (.s en) (.i .i64 cg)) λaT=>
 gT aT λiM=>
 gC iM λQs pw=>
 gA Qs λcs=>
 gC cs λTz rq=>
 gL Tz λL=>
 gN rq<|
 gC pw λN8 pv=>
 gI .i64 N8 λx2=>
 gN pv<|
 bd (fX (az L cK eP dE jf dt nA im fb en cA cg gV dk mQ x2 ez cL eA lA) (.i .i64 1)) λca=>
 gW ca λx3 ls=>
 bj ls λmu lc qK nC vY nD Cv vZ ug qL lf lg wa nE Cw xE1 qM mR qN tX=>
 some (.e9 (.cj []) (az mu lc qK nC vY nD Cv vZ ug qL lf lg wa nE Cw xE1 qM mR qN tX)))
def vo:GT:=bt 106 (Xj lH) uf
theorem zD:SG vo:=R8 yx 0 kg [] [(0,1000000)] 60 [] [] [] [(0,[0,1,2,3,4,5,6,7,8,9,10,11,12,13,14,15,16,17,18,19]),(2,[0,1,2,3,4,5,6,7,8,9,10,11,12,13,14,15,16,17,18,19,20,21,22,23,24,25,26,27,28,29,30,31,32,33])] [(0,⟨[0,1000000],[2000019],[],[(0,[(21,.sc (.k .b))])],[]⟩)] [] [] [] Tryz.func106 (by kernel_rfl) (by kernel_rfl) (tU λ_=>by kernel_rfl)
def pD (w:List MV):Option MV:=bj w λdj cK eP dE jf dt nA im fb en cA cg gV dk mQ xE ez cL eA lA=>
 bd (s8 (.agg [.list dj]) (.s fb)) λrA=>
 gT rA λvs=>
 gC vs λB5 ik=>
 gA B5 λcs=>
 fa cs λPath Value Version bF=>
 gC ik λm25 Jh=>
 gI .i64 m25 λx=>
 gN Jh<|
 some (.e9 (.cj []) (az dj cK eP dE jf dt nA im fb en cA cg gV dk mQ x Value Version eA lA))
def AE:GT:=bt 107 (Xj pD) vo
theorem CY:SG AE:=R8 zD 0 kg [] [(0,1000000)] 35 [] [24] [(1,[2])] [(0,[0,1,2,3,4,5,6,7,8,9,10,11,12,13,14,15,16]),(1,[0,1,2,3,4,5,6,7,8,9,10,11,12,13,14,15,16,17,18,19])] [] [] [] [] Tryz.func107 (by kernel_rfl) (by kernel_rfl) (tU λ_=>by kernel_rfl)
def gE (sA p version:MV):Option MV:=gA sA λcs=>
 gC cs λm fw=>
 gL m λL=>
 gN fw<|
 gS p λp1=>
 gI .i64 version λkV=>
 bd (ji (.agg [.list L]) (.s p1)) λrA=>
 gT rA λvs=>
 jII vs λx x1=>
 bd (
 aQ (decide (x1=0)) (
 aQ (!decide (kV=(-1))) (
 idx L x λy=>
 gA y λdP=>
 fa dP λPath Value Version bF=>
 some [.b (!decide (kV=Version))]) (
 some [.b false])) (
 some [.b false])) λiM=>
 gC iM λm7 lk=>
 gB m7 λx2=>
 gN lk<|
 aQ x2 (
 some (.cj [.i .i64 x,.i .i64 8])) (
 some (.cj [.i .i64 x,.i .i64 x1]))
def rC:GT:=bt 221 (GU gE) AE
theorem wb:SG rC:=kQ CY [] 35 [(2,⟨[2,3,8,9],[],[],[(0,[(31,.sc (.k .b))])],[]⟩)] [] [] Tryz.func221 (by kernel_rfl) (qG (λ_ _ _=>by kernel_rfl))
def BD (sA p value version:MV):Option MV:=gA sA λcs=>
 gC cs λm fw=>
 gL m λL=>
 gN fw<|
 gS p λp1=>
 gS value λue=>
 gI .i64 version λkV=>
 bd (gE (.agg [.list L]) (.s p1) (.i .i64 kV)) λrA=>
 gT rA λvs=>
 jII vs λx x1=>
 aQ (!decide (x1=0)) (
 some (.cj [.agg [.list L],.i .i64 x1])) (
 aQ (decide ((1000:Int)<(ue.length:Int))) (
 some (.cj [.agg [.list L],.i .i64 5])) (
 idx L x λy=>
 gA y λdP=>
 fa dP λPath Value Version bF=>
 aQ (decide ((1000000000:Int)<=Version)) (
 some (.cj [.agg [.list L],.i .i64 9])) (
 bd (iu 4 48 [.list L]) λaT=>
 gF aT λxs=>
 idx xs x λy1=>
 gA y1 λlu=>
 fa lu λdX cT bJ pu=>
 idx (xs.set (AI x) (.agg (fq dX ue bJ pu))) x λy2=>
 gA y2 λlZ=>
 fa lZ λtW ll ft Av=>
 idx (xs.set (AI x) (.agg (fq dX ue bJ pu))) x λy3=>
 gA y3 λKZ=>
 fa KZ λVx CV xd aiN=>
 some (.cj [.agg [.list ((xs.set (AI x) (.agg (fq dX ue bJ pu))).set (AI x) (.agg (fq Vx CV (c8 .i64 (ft+1)) aiN)))],.i .i64 0]))))
def MB:GT:=bt 173 (WX BD) rC
theorem Ld:SG MB:=kQ wb [] 59 [] [] [] Tryz.func173 (by kernel_rfl) (Ho (λ_ _ _ _=>by kernel_rfl))
def pE (w:List MV):Option MV:=bj w λdj cK eP dE jf dt nA im fb en cA cg gV dk mQ xE ez cL eA lA=>
 bd (BD (.agg [.list dj]) (.s fb) (.s en) (.i .i64 cA)) λrA=>
 gT rA λvs=>
 gC vs λB5 ik=>
 gA B5 λcs=>
 gC cs λQs pw=>
 gL Qs λL=>
 gN pw<|
 gC ik λTz rq=>
 gI .i64 Tz λx=>
 gN rq<|
 bd (fX (az L cK eP dE jf dt nA im fb en cA cg gV dk mQ x ez cL eA lA) (.i .i64 2)) λaT=>
 gW aT λx1 ls=>
 bj ls λmu lc qK nC vY nD Cv vZ ug qL lf lg wa nE Cw xE1 qM mR qN tX=>
 bd (
 aQ (decide (xE1=0)) (
 bd (s8 (.agg [.list mu]) (.s ug)) λca=>
 gT ca λiM=>
 gC iM λm43 Ji=>
 gA m43 λdP=>
 fa dP λPath Value Version bF=>
 gC Ji λm48 Qy=>
 gI .i64 m48 λx2=>
 gN Qy<|
 some (0,(az mu lc qK nC vY nD Cv vZ ug qL lf lg wa nE Cw xE1 qM Version qN tX))) (
 some (0,(az mu lc qK nC vY nD Cv vZ ug qL lf lg wa nE Cw xE1 qM mR qN tX)))) λp=>
 bU (sh p.1 0)<|
 dn .i64 .i64 .i64 .i64 .i64 .i64 .i64 .i64 .i64 .i64 .i64 p.2 λx3 x4 x5 x6 x7 x8 x9 pq rn zK zw DW CU EU Ft Fu GV O7 Sb xs=>
 some (.e9 (.cj []) (az x3 x4 x5 x6 x7 x8 x9 pq rn zK zw DW CU EU Ft Fu GV O7 Sb xs))
def AF:GT:=bt 108 (Xj pE) MB
theorem CZ:SG AF:=R8 Ld 0 kg [] [(0,1000000)] 64 [] [] [] [(0,[0,1,2,3,4,5,6,7,8,9,10,11,12,13,14,15,16,17,18,19,20,21,22,23,24,25,26,27,28,29,30,31,32,33]),(3,[0,1,2,3,4,5,6,7,8,9,10,11,12,13,14,15,16])] [] [(3,⟨[0],[],[],[(0,[(1000000,.box [.k .l,.k (.i .i64),.k .l,.k .l,.k .l,.k (.i .i64),.k (.i .i64),.k (.i .i64),.k .s,.k .s,.k (.i .i64),.k (.i .i64),.k (.i .i64),.k (.i .i64),.k (.i .i64),.k (.i .i64),.k .s,.k (.i .i64),.k .l,.own 2000019 77 false])])],[]⟩)] [] [] Tryz.func108 (by kernel_rfl) (by kernel_rfl) (tU λ_=>by kernel_rfl)
def iU (s1 s2:MV):Option MV:=gL s1 λud=>
 gL s2 λzB=>
 a7 ud λlen=>
 a7 zB λcW=>
 aQ (!decide ((len:Int)=(cW:Int))) (
 some (.b false)) (
 a7 ud λdO=>
 bd (Loop (λfw=>
 gC fw λm ek=>
 gI .i64 m λx=>
 gN ek<|
 aQ (decide (x<(dO:Int))) (
 idx ud x λy=>
 gS y λx1=>
 idx zB x λy1=>
 gS y1 λx2=>
 aQ (!decide (x1=x2)) (
 some (.inr (1,[.b false]))) (
 some (.inl [.i .i64 (c8 .i64 (x+1))]))) (
 some (.inr (2,[])))) [.i .i64 0]) λp=>
 aQ (sh p.1 2) (
 gN p.2<|
 some (.b true)) (
 bU (sh p.1 1)<|
 gC p.2 λm1 iT=>
 gB m1 λx3=>
 gN iT<|
 some (.b x3)))
def uh:GT:=bt 142 (dC iU) AF
theorem yy:SG uh:=sb CZ [] [] 26 [] [] [] [(6,[0,1,2,3,4,5,6,7,8])] [] [] [(4,⟨[0,1,12],[],[(13,.sc (.k (.i .i64)))],[(1,[(4,.sc (.k .b))]),(2,[])],[]⟩)] [] Tryz.func142 (by kernel_rfl) (bl (λ_ _=>by kernel_rfl))
def ui (p q:MV):Option MV:=gS p λp1=>
 gS q λq1=>
 bd (kz (.s p1)) λrA=>
 gT rA λvs=>
 O6 vs λx x1=>
 bd (kz (.s q1)) λaT=>
 gT aT λiM=>
 O6 iM λx2 x3=>
 bd (
 aQ x1 (
 aQ x3 (
 a7 x2 λlen=>
 a7 x λcW=>
 aQ (decide ((cW:Int)<(len:Int))) (
 a7 x λdO=>
 a7 x2 λjJ=>
 bU (decide ((0:Int)<=0/\(0:Int)<=(dO:Int)/\(dO:Int)<=(jJ:Int)))<|
 bd (iU (.list x) (.list (By (AI 0) (BY (AI (dO:Int)) x2)))) λca=>
 gB ca λx4=>
 some [.b x4]) (
 some [.b false])) (
 some [.b false])) (
 some [.b false])) λoO=>
 gC oO λm4 n8=>
 gB m4 λx5=>
 gN n8<|
 some (.b x5)
def Jp:GT:=bt 222 (dC ui) uh
theorem Jq:SG Jp:=kQ yy [] 38 [(3,⟨[5,6,7,8],[],[],[(0,[(4,.sc (.k .b))])],[]⟩)] [] [] Tryz.func222 (by kernel_rfl) (bl (λ_ _=>by kernel_rfl))
def sK (sA p version:MV):Option MV:=gA sA λcs=>
 gC cs λm fw=>
 gL m λL=>
 gN fw<|
 gS p λp1=>
 gI .i64 version λkV=>
 bd (gE (.agg [.list L]) (.s p1) (.i .i64 kV)) λrA=>
 gT rA λvs=>
 jII vs λx x1=>
 aQ (decide (p1=([47]:List UInt8))) (
 some (.cj [.agg [.list L],.i .i64 13])) (
 aQ (!decide (x1=0)) (
 some (.cj [.agg [.list L],.i .i64 x1])) (
 bd (
 a7 L λlen=>
 aQ (decide ((c8 .i64 (x+1))<(len:Int))) (
 idx L (c8 .i64 (x+1)) λy=>
 gA y λdP=>
 fa dP λPath Value Version bF=>
 bd (ui (.s p1) (.s Path)) λaT=>
 gB aT λx2=>
 some [.b x2]) (
 some [.b false])) λiM=>
 gC iM λm7 lk=>
 gB m7 λx3=>
 gN lk<|
 aQ x3 (
 some (.cj [.agg [.list L],.i .i64 10])) (
 bd (iu 4 48 [.list L]) λca=>
 gF ca λxs=>
 bd (qE [.fresh xs,.i .i64 x,.i .i64 (c8 .i64 (x+1))]) λgO=>
 gF gO λzL=>
 some (.cj [.agg [.list zL],.i .i64 0]))))
def Ef:GT:=bt 174 (GU sK) Jp
theorem Fy:SG Ef:=kQ Jq [] 53 [(6,⟨[1,3,6,8],[],[],[(0,[(26,.sc (.k .b))])],[47,51]⟩)] [] [] Tryz.func174 (by kernel_rfl) (qG (λ_ _ _=>by kernel_rfl))
def lI (w:List MV):Option MV:=bj w λdj cK eP dE jf dt nA im fb en cA cg gV dk mQ xE ez cL eA lA=>
 bd (sK (.agg [.list dj]) (.s fb) (.i .i64 cA)) λrA=>
 gT rA λvs=>
 gC vs λB5 ik=>
 gA B5 λcs=>
 gC cs λQs pw=>
 gL Qs λL=>
 gN pw<|
 gC ik λTz rq=>
 gI .i64 Tz λx=>
 gN rq<|
 bd (fX (az L cK eP dE jf dt nA im fb en cA cg gV dk mQ x ez cL eA lA) (.i .i64 3)) λaT=>
 gW aT λx1 ls=>
 bj ls λmu lc qK nC vY nD Cv vZ ug qL lf lg wa nE Cw xE1 qM mR qN tX=>
 some (.e9 (.cj []) (az mu lc qK nC vY nD Cv vZ ug qL lf lg wa nE Cw xE1 qM mR qN tX))
def vp:GT:=bt 109 (Xj lI) Ef
theorem zE:SG vp:=R8 Fy 0 kg [] [(0,1000000)] 31 [] [] [] [(0,[0,1,2,3,4,5,6,7,8,9,10,11,12,13,14,15,16,17,18,19,20,21,22,23,24,25,26,27,28])] [] [] [] [] Tryz.func109 (by kernel_rfl) (by kernel_rfl) (tU λ_=>by kernel_rfl)
def uj (p:MV):Option MV:=gS p λp1=>
 bd (kz (.s p1)) λrA=>
 gT rA λvs=>
 O6 vs λx x1=>
 aQ (!x1) (
 some (.cj [.list ([]:List MV),.i .i64 13])) (
 some (.cj [.list x,.i .i64 0]))
def Jr:GT:=bt 224 (mb uj) vp
theorem Js:SG Jr:=kQ zE [] 14 [] [] [] Tryz.func224 (by kernel_rfl) (dp (λ_=>by kernel_rfl))
def yz (a a1:MV):Option MV:=gA a λcs=>
 gC cs λm fw=>
 gL m λL=>
 gN fw<|
 gS a1 λln=>
 bd (ji (.agg [.list L]) (.s ln)) λrA=>
 gT rA λvs=>
 jII vs λx x1=>
 aQ (!decide (x1=0)) (
 some (.cj [.list ([]:List MV),.i .i64 x1])) (
 bd (uj (.s ln)) λaT=>
 gT aT λiM=>
 Gm iM λx2 x3=>
 bU (qa 4 L)<|
 a7 L λlen=>
 bU (decide ((0:Int)<=(c8 .i64 (x+1))/\(c8 .i64 (x+1))<=(len:Int)/\(len:Int)<=(len:Int)))<|
 a7 (By (AI (c8 .i64 (x+1))) (BY (AI (len:Int)) L)) λcW=>
 bd (Loop (λlj=>
 Gm lj λxs x4=>
 aQ (decide (x4<(cW:Int))) (
 idx (By (AI (c8 .i64 (x+1))) (BY (AI (len:Int)) L)) x4 λy=>
 gA y λdP=>
 fa dP λPath Value Version bF=>
 bd (ui (.s ln) (.s Path)) λca=>
 gB ca λx5=>
 aQ (!x5) (
 some (.inr (2,[.list xs]))) (
 bd (uj (.s Path)) λgO=>
 gT gO λoO=>
 Gm oO λx6 x7=>
 a7 x6 λdO=>
 a7 x2 λjJ=>
 bd (
 aQ (decide ((dO:Int)=(c8 .i64 ((jJ:Int)+1)))) (
 a7 x2 λlO=>
 idx x6 (lO:Int) λy1=>
 gS y1 λx8=>
 a7 xs λym=>
 a7 ([.s x8]:List MV) λAu=>
 bU (decide ((ym+Au) *16<=2^46))<|
 some (0,[.list (xs++([.s x8]:List MV))])) (
 some (0,[.list xs]))) λp1=>
 bU (sh p1.1 0)<|
 gC p1.2 λTt Jt=>
 gL Tt λzL=>
 gN Jt<|
 some (.inl [.list zL,.i .i64 (c8 .i64 (x4+1))]))) (
 some (.inr (2,[.list xs])))) [.list ([]:List MV),.i .i64 0]) λp=>
 bU (sh p.1 2)<|
 gC p.2 λm14 Eb=>
 gL m14 λJd=>
 gN Eb<|
 some (.cj [.list Jd,.i .i64 0]))
def Ju:GT:=bt 175 (dC yz) Jr
theorem Jv:SG Ju:=sb Js [] [] 66 [62] [] [] [] [] [(12,⟨[1,8,13,33,34,35],[],[],[(0,[(10,.sc (.own 63 9 true))])],[63]⟩)] [(7,⟨[1,8,33,34],[],[(10,.sc (.own 63 9 true)),(35,.sc (.k (.i .i64)))],[(2,[(10,.sc (.own 63 9 true))])],[63]⟩)] [] Tryz.func175 (by kernel_rfl) (bl (λ_ _=>by kernel_rfl))
def nT (w:List MV):Option MV:=bj w λdj cK eP dE jf dt nA im fb en cA cg gV dk mQ xE ez cL eA lA=>
 bd (yz (.agg [.list dj]) (.s fb)) λrA=>
 gT rA λvs=>
 Gm vs λx x1=>
 some (.e9 (.cj []) (az dj cK eP dE jf dt nA im fb en cA cg gV dk mQ x1 ez cL x lA))
def zm:GT:=bt 110 (Xj nT) Ju
theorem Cb:SG zm:=R8 Jv 0 kg [] [(0,1000000)] 24 [] [] [] [(0,[0,1,2,3,4,5,6,7,8,9,10,11,12,13,14,15,16,17,18,19,20,21,22,23])] [] [] [] [] Tryz.func110 (by kernel_rfl) (by kernel_rfl) (tU λ_=>by kernel_rfl)
def yA (b id span:MV):Option MV:=gA b λcs=>
 Hs cs λct L=>
 gI .i64 id λHv=>
 gI .i64 span λMC=>
 bd (ig (.agg [.i .i64 ct,.list L]) (.i .i64 Hv)) λrA=>
 gT rA λvs=>
 Vm vs λx x1=>
 bd (
 aQ (decide (Hv<1)) (
 some [.b true]) (
 aQ (decide (MC<1)) (
 some [.b true]) (
 some [.b (decide ((1000:Int)<MC))]))) λiM=>
 gC iM λm4 n8=>
 gB m4 λx2=>
 gN n8<|
 aQ x2 (
 some (.cj [.agg [.i .i64 ct,.list L],.i .i64 1])) (
 aQ x1 (
 some (.cj [.agg [.i .i64 ct,.list L],.i .i64 7])) (
 a7 L λlen=>
 aQ (decide ((50:Int)<=(len:Int))) (
 some (.cj [.agg [.i .i64 ct,.list L],.i .i64 9])) (
 both (
 bd (iu 3 24 [.list L]) λaT=>
 gF aT λxs=>
 bd (ko 24 [.fresh xs,.i .i64 x,.fresh ([.agg [.i .i64 Hv,.i .i64 MC,.i .i64 (c8 .i64 (ct+MC))]]:List MV)]) λca=>
 gF ca λzL=>
 some (.cj [.agg [.i .i64 ct,.list zL],.i .i64 0])) (
 bd (iu 3 24 [.list L]) λgO=>
 gF gO λJd=>
 bd (ko 24 [.fresh Jd,.i .i64 x,.fresh ([.agg [.i .i64 Hv,.i .i64 MC,.i .i64 (c8 .i64 (ct+MC))]]:List MV)]) λoP=>
 gF oP λYq=>
 some (.cj [.agg [.i .i64 ct,.list Yq],.i .i64 0])))))
def Jw:GT:=bt 176 (GU yA) zm
theorem Jx:SG Jw:=sb Cb [] [] 52 [] [] [] [(8,[0,1,3,4,5,6,7,8,9,10,2,11,12,13,14,0,1,3,4,5,6,7,8,9,10,11,2,12,13,14,2,11])] [(2,⟨[1,2,3,6,8,9],[],[],[(0,[(16,.sc (.k .b))])],[39,48,49]⟩)] [] [] [] Tryz.func176 (by kernel_rfl) (qG (λ_ _ _=>by kernel_rfl))
def nU (w:List MV):Option MV:=bj w λdj cK eP dE jf dt nA im fb en cA cg gV dk mQ xE ez cL eA lA=>
 bd (yA (.agg [.i .i64 cK,.list eP]) (.i .i64 cg) (.i .i64 gV)) λrA=>
 gT rA λvs=>
 gC vs λB5 ik=>
 gA B5 λcs=>
 Hs cs λct L=>
 gC ik λN8 pv=>
 gI .i64 N8 λx=>
 gN pv<|
 some (.e9 (.cj []) (az dj ct L dE jf dt nA im fb en cA cg gV dk mQ x ez cL eA lA))
def zn:GT:=bt 111 (Xj nU) Jw
theorem Cc:SG zn:=R8 Jx 0 kg [] [(0,1000000)] 29 [] [] [] [(0,[0,1,2,3,4,5,6,7,8,9,10,11,12,13,14,15,16,17,18,19,20,21,22,23,24,25,26,27,28])] [] [] [] [] Tryz.func111 (by kernel_rfl) (by kernel_rfl) (tU λ_=>by kernel_rfl)
def vq (b id:MV):Option MV:=gA b λcs=>
 Hs cs λct L=>
 gI .i64 id λHv=>
 bd (ig (.agg [.i .i64 ct,.list L]) (.i .i64 Hv)) λrA=>
 gT rA λvs=>
 Vm vs λx x1=>
 aQ (!x1) (
 some (.cj [.agg [.i .i64 ct,.list L],.i .i64 14])) (
 bd (iu 3 24 [.list L]) λaT=>
 gF aT λxs=>
 idx xs x λy=>
 gA y λdP=>
 vT dP λId Span cF=>
 idx xs x λy1=>
 gA y1 λlu=>
 vT lu λSa pT rS=>
 some (.cj [.agg [.i .i64 ct,.list (xs.set (AI x) (.agg [.i .i64 Sa,.i .i64 pT,.i .i64 (c8 .i64 (ct+Span))]))],.i .i64 0]))
def Gu:GT:=bt 177 (dC vq) zn
theorem GZ:SG Gu:=sb Cc [] [] 36 [] [] [] [(5,[0,1,2,3,4,5,6,7,8,9,10,11,12,13,14])] [] [] [] [] Tryz.func177 (by kernel_rfl) (bl (λ_ _=>by kernel_rfl))
def mS (w:List MV):Option MV:=bj w λdj cK eP dE jf dt nA im fb en cA cg gV dk mQ xE ez cL eA lA=>
 bd (vq (.agg [.i .i64 cK,.list eP]) (.i .i64 cg)) λrA=>
 gT rA λvs=>
 gC vs λB5 ik=>
 gA B5 λcs=>
 Hs cs λct L=>
 gC ik λN8 pv=>
 gI .i64 N8 λx=>
 gN pv<|
 some (.e9 (.cj []) (az dj ct L dE jf dt nA im fb en cA cg gV dk mQ x ez cL eA lA))
def xj:GT:=bt 112 (Xj mS) Gu
theorem AG:SG xj:=R8 GZ 0 kg [] [(0,1000000)] 24 [] [] [] [(0,[0,1,2,3,4,5,6,7,8,9,10,11,12,13,14,15,16,17,18,19,20,21,22,23])] [] [] [] [] Tryz.func112 (by kernel_rfl) (by kernel_rfl) (tU λ_=>by kernel_rfl)
def vr (b id:MV):Option MV:=gA b λcs=>
 Hs cs λct L=>
 gI .i64 id λHv=>
 bd (ig (.agg [.i .i64 ct,.list L]) (.i .i64 Hv)) λrA=>
 gT rA λvs=>
 Vm vs λx x1=>
 aQ (!x1) (
 some (.cj [.agg [.i .i64 ct,.list L],.i .i64 14])) (
 bd (iu 3 24 [.list L]) λaT=>
 gF aT λxs=>
 bd (qE [.fresh xs,.i .i64 x,.i .i64 (c8 .i64 (x+1))]) λca=>
 gF ca λzL=>
 some (.cj [.agg [.i .i64 ct,.list zL],.i .i64 0]))
def Gv:GT:=bt 178 (dC vr) xj
theorem G0:SG Gv:=kQ AG [] 26 [] [] [] Tryz.func178 (by kernel_rfl) (bl (λ_ _=>by kernel_rfl))
def yB (sA owner:MV):Option MV:=gA sA λcs=>
 gC cs λm fw=>
 gL m λL=>
 gN fw<|
 gI .i64 owner λyw=>
 a7 L λlen=>
 bd (Loop (λek=>
 KY ek λgone t x=>
 aQ (decide (x<(len:Int))) (
 idx L x λy=>
 gA y λdP=>
 fa dP λPath Value Version bF=>
 bd (
 aQ (decide ((0:Int)<yw)) (
 some [.b (decide (bF=yw))]) (
 some [.b false])) λvs=>
 gC vs λm8 yo=>
 gB m8 λx1=>
 gN yo<|
 aQ x1 (
 a7 gone λcW=>
 a7 ([.s Path]:List MV) λdO=>
 bU (decide ((cW+dO) *16<=2^46))<|
 some (.inl [.list (gone++([.s Path]:List MV)),.list t,.i .i64 (c8 .i64 (x+1))])) (
 a7 t λjJ=>
 a7 ([.agg (fq Path Value Version bF)]:List MV) λlO=>
 bU (decide ((jJ+lO) *48<=2^46))<|
 some (.inl [.list gone,.list (t++([.agg (fq Path Value Version bF)]:List MV)),.i .i64 (c8 .i64 (x+1))]))) (
 some (.inr (2,[.list gone,.list t])))) [.list ([]:List MV),.list ([]:List MV),.i .i64 0]) λp=>
 bU (sh p.1 2)<|
 Yp p.2 λJy t1=>
 some (.cj [.agg [.list t1],.list Jy])
def Jz:GT:=bt 228 (dC yB) Gv
theorem JA:SG Jz:=sb G0 [] [] 40 [29,34] [] [] [] [(6,⟨[1,4,6,7,9,12,13,14],[30,35],[],[(0,[(25,.sc (.k .b))])],[30,35]⟩)] [] [(4,⟨[1,4,12,13],[],[(6,.sc (.own 30 9 true)),(7,.box [.own 35 98 true]),(14,.sc (.k (.i .i64)))],[(2,[(6,.sc (.own 30 9 true)),(7,.box [.own 35 98 true])])],[30,35]⟩)] [] Tryz.func228 (by kernel_rfl) (bl (λ_ _=>by kernel_rfl))
def kW (w:List MV)(id:MV):Option MV:=gI .i64 id λHv=>
 bj w λdj cK eP dE jf dt nA im fb en cA cg gV dk mQ xE ez cL eA lA=>
 bd (yB (.agg [.list dj]) (.i .i64 Hv)) λrA=>
 gT rA λvs=>
 gC vs λB5 ik=>
 gA B5 λcs=>
 gC cs λQs pw=>
 gL Qs λL=>
 gN pw<|
 gC ik λTz rq=>
 gL Tz λx=>
 gN rq<|
 a7 x λlen=>
 bd (Loop (λpv=>
 gC pv λN8 Ax=>
 gI .i64 N8 λx1=>
 bj Ax λx2 x3 x4 x5 x6 x7 x8 x9 pq rn zK zw DW CU EU Ft Fu GV O7 xs=>
 aQ (decide (x1<(len:Int))) (
 idx x x1 λy=>
 gS y λSb=>
 a7 xs λcW=>
 a7 ([.agg [.i .i64 3,.s Sb]]:List MV) λdO=>
 bU (decide ((cW+dO) *24<=2^46))<|
 some (.inl [.i .i64 (c8 .i64 (x1+1)),.list x2,.i .i64 x3,.list x4,.list x5,.list x6,.i .i64 x7,.i .i64 x8,.i .i64 x9,.s pq,.s rn,.i .i64 zK,.i .i64 zw,.i .i64 DW,.i .i64 CU,.i .i64 EU,.i .i64 Ft,.s Fu,.i .i64 GV,.list O7,.list (xs++([.agg [.i .i64 3,.s Sb]]:List MV))])) (
 some (.inr (2,(az x2 x3 x4 x5 x6 x7 x8 x9 pq rn zK zw DW CU EU Ft Fu GV O7 xs))))) [.i .i64 0,.list L,.i .i64 cK,.list eP,.list dE,.list jf,.i .i64 dt,.i .i64 nA,.i .i64 im,.s fb,.s en,.i .i64 cA,.i .i64 cg,.i .i64 gV,.i .i64 dk,.i .i64 mQ,.i .i64 xE,.s ez,.i .i64 cL,.list eA,.list lA]) λp=>
 bU (sh p.1 2)<|
 dn .i64 .i64 .i64 .i64 .i64 .i64 .i64 .i64 .i64 .i64 .i64 p.2 λYr x23 x24 x25 x26 x27 x28 x29 x30 x31 x32 x33 x34 x35 x36 x37 x38 x39 x40 zL=>
 some (.e9 (.cj []) (az Yr x23 x24 x25 x26 x27 x28 x29 x30 x31 x32 x33 x34 x35 x36 x37 x38 x39 x40 zL))
def zo:GT:=bt 179 (cl2 kW) Jz
theorem Cd:SG zo:=R8 JA 0 kg [] [(0,1000000)] 41 [36] [] [] [] [] [] [(3,⟨[0,23,24],[],[(25,.sc (.k (.i .i64))),(1000000,.box [.k .l,.k (.i .i64),.k .l,.k .l,.k .l,.k (.i .i64),.k (.i .i64),.k (.i .i64),.k .s,.k .s,.k (.i .i64),.k (.i .i64),.k (.i .i64),.k (.i .i64),.k (.i .i64),.k (.i .i64),.k .s,.k (.i .i64),.k .l,.own 2000019 77 false])],[(2,[(1000000,.box [.k .l,.k (.i .i64),.k .l,.k .l,.k .l,.k (.i .i64),.k (.i .i64),.k (.i .i64),.k .s,.k .s,.k (.i .i64),.k (.i .i64),.k (.i .i64),.k (.i .i64),.k (.i .i64),.k (.i .i64),.k .s,.k (.i .i64),.k .l,.own 2000019 77 false])])],[]⟩)] [] Tryz.func179 (by kernel_rfl) (by kernel_rfl) (aaW λ_ _=>by kernel_rfl)
def mT (w:List MV):Option MV:=bj w λdj cK eP dE jf dt nA im fb en cA cg gV dk mQ xE ez cL eA lA=>
 bd (vr (.agg [.i .i64 cK,.list eP]) (.i .i64 cg)) λrA=>
 gT rA λvs=>
 gC vs λB5 ik=>
 gA B5 λcs=>
 Hs cs λct L=>
 gC ik λN8 pv=>
 gI .i64 N8 λx=>
 gN pv<|
 bd (
 aQ (decide (x=0)) (
 bd (kW (az dj ct L dE jf dt nA im fb en cA cg gV dk mQ x ez cL eA lA) (.i .i64 cg)) λaT=>
 gW aT λx1 ls=>
 bj ls λmu lc qK nC vY nD Cv vZ ug qL lf lg wa nE Cw xE1 qM mR qN tX=>
 some (0,(az mu lc qK nC vY nD Cv vZ ug qL lf lg wa nE Cw xE1 qM mR qN tX))) (
 some (0,(az dj ct L dE jf dt nA im fb en cA cg gV dk mQ x ez cL eA lA)))) λp=>
 bU (sh p.1 0)<|
 dn .i64 .i64 .i64 .i64 .i64 .i64 .i64 .i64 .i64 .i64 .i64 p.2 λx2 x3 x4 x5 x6 x7 x8 x9 pq rn zK zw DW CU EU Ft Fu GV O7 xs=>
 some (.e9 (.cj []) (az x2 x3 x4 x5 x6 x7 x8 x9 pq rn zK zw DW CU EU Ft Fu GV O7 xs))
def xk:GT:=bt 113 (Xj mT) zo
theorem AH:SG xk:=R8 Cd 0 kg [] [(0,1000000)] 37 [] [] [] [(0,[0,1,2,3,4,5,6,7,8,9,10,11,12,13,14,15,16,17,18,19,20,21,22,23])] [] [(2,⟨[0],[],[],[(0,[(1000000,.box [.k .l,.k (.i .i64),.k .l,.k .l,.k .l,.k (.i .i64),.k (.i .i64),.k (.i .i64),.k .s,.k .s,.k (.i .i64),.k (.i .i64),.k (.i .i64),.k (.i .i64),.k (.i .i64),.k (.i .i64),.k .s,.k (.i .i64),.k .l,.own 2000019 77 false])])],[]⟩)] [] [] Tryz.func113 (by kernel_rfl) (by kernel_rfl) (tU λ_=>by kernel_rfl)
def yC (b now:MV):Option MV:=gA b λcs=>
 Hs cs λct L=>
 gI .i64 now λN9=>
 aQ (decide (N9<ct)) (
 some (.cj [.agg [.i .i64 ct,.list L],.list ([]:List MV),.i .i64 15])) (
 aQ (decide ((1000000000:Int)<N9)) (
 some (.cj [.agg [.i .i64 ct,.list L],.list ([]:List MV),.i .i64 5])) (
 a7 L λlen=>
 bd (Loop (λiT=>
 gC iT λm2 mn=>
 gL m2 λgone=>
 gC mn λm3 n8=>
 gI .i64 m3 λout=>
 Gm n8 λkR x=>
 aQ (decide (x<(len:Int))) (
 idx L x λy=>
 gA y λdP=>
 vT dP λId Span cF=>
 aQ (decide (cF<=N9)) (
 a7 gone λcW=>
 a7 ([.i .i64 Id]:List MV) λdO=>
 bU (decide ((cW+dO) *8<=2^46))<|
 some (.inl [.list (gone++([.i .i64 Id]:List MV)),.i .i64 out,.list kR,.i .i64 (c8 .i64 (x+1))])) (
 a7 kR λjJ=>
 a7 ([.agg [.i .i64 Id,.i .i64 Span,.i .i64 cF]]:List MV) λlO=>
 bU (decide ((jJ+lO) *24<=2^46))<|
 some (.inl [.list gone,.i .i64 out,.list (kR++([.agg [.i .i64 Id,.i .i64 Span,.i .i64 cF]]:List MV)),.i .i64 (c8 .i64 (x+1))]))) (
 some (.inr (3,[.list gone,.i .i64 out,.list kR])))) [.list ([]:List MV),.i .i64 N9,.list ([]:List MV),.i .i64 0]) λp=>
 bU (sh p.1 3)<|
 gC p.2 λm9 nz=>
 gL m9 λJy=>
 Hs nz λD7 Oa=>
 some (.cj [.agg [.i .i64 D7,.list Oa],.list Jy,.i .i64 0])))
def JB:GT:=bt 180 (dC yC) xk
theorem JC:SG JB:=sb AH [] [] 48 [37,42] [] [] [] [] [] [(8,⟨[1,4,24,25],[],[(7,.sc (.own 38 3 true)),(8,.box [.k (.i .i64),.own 43 126 true]),(26,.sc (.k (.i .i64)))],[(3,[(7,.sc (.own 38 3 true)),(8,.box [.k (.i .i64),.own 43 126 true])])],[38,43]⟩)] [] Tryz.func180 (by kernel_rfl) (bl (λ_ _=>by kernel_rfl))
def nV (w:List MV):Option MV:=bj w λdj cK eP dE jf dt nA im fb en cA cg gV dk mQ xE ez cL eA lA=>
 bd (yC (.agg [.i .i64 cK,.list eP]) (.i .i64 gV)) λrA=>
 gT rA λvs=>
 gC vs λB5 ik=>
 gA B5 λcs=>
 Hs cs λct L=>
 Gm ik λx x1=>
 aQ (!decide (x1=0)) (
 some (.e9 (.cj []) (az dj cK eP dE jf dt nA im fb en cA cg gV dk mQ x1 ez cL eA lA))) (
 a7 x λlen=>
 bd (Loop (λJh=>
 gC Jh λm25 Qu=>
 gI .i64 m25 λx2=>
 bj Qu λx3 x4 x5 x6 x7 x8 x9 pq rn zK zw DW CU EU Ft Fu GV O7 Sb xs=>
 aQ (decide (x2<(len:Int))) (
 idx x x2 λy=>
 gI .i64 y λYr=>
 bd (kW (az x3 x4 x5 x6 x7 x8 x9 pq rn zK zw DW CU EU Ft Fu GV O7 Sb xs) (.i .i64 Yr)) λaT=>
 gW aT λx23 ls=>
 bj ls λmu lc qK nC vY nD Cv vZ ug qL lf lg wa nE Cw xE1 qM mR qN tX=>
 some (.inl [.i .i64 (c8 .i64 (x2+1)),.list mu,.i .i64 lc,.list qK,.list nC,.list vY,.i .i64 nD,.i .i64 Cv,.i .i64 vZ,.s ug,.s qL,.i .i64 lf,.i .i64 lg,.i .i64 wa,.i .i64 nE,.i .i64 Cw,.i .i64 xE1,.s qM,.i .i64 mR,.list qN,.list tX])) (
 some (.inr (2,(az x3 x4 x5 x6 x7 x8 x9 pq rn zK zw DW CU EU Ft Fu GV O7 Sb xs))))) [.i .i64 0,.list dj,.i .i64 ct,.list L,.list dE,.list jf,.i .i64 dt,.i .i64 nA,.i .i64 im,.s fb,.s en,.i .i64 cA,.i .i64 cg,.i .i64 gV,.i .i64 dk,.i .i64 mQ,.i .i64 x1,.s ez,.i .i64 ct,.list eA,.list lA]) λp=>
 bU (sh p.1 2)<|
 dn .i64 .i64 .i64 .i64 .i64 .i64 .i64 .i64 .i64 .i64 .i64 p.2 λx24 x25 x26 x27 x28 x29 x30 x31 x32 x33 x34 x35 x36 x37 x38 x39 x40 x41 x42 zL=>
 some (.e9 (.cj []) (az x24 x25 x26 x27 x28 x29 x30 x31 x32 x33 x34 x35 x36 x37 x38 x39 x40 x41 x42 zL)))
def zp:GT:=bt 114 (Xj nV) JB
theorem Ce:SG zp:=R8 JC 0 kg [] [(0,1000000)] 50 [] [33] [(1,[2])] [(0,[0,1,2,3,4,5,6,7,8,9,10,11,12,13,14,15,16,17,18]),(3,[0,1,2,3,4,5,6,7,8,9,10,11,12])] [] [] [(5,⟨[0,40,41],[],[(42,.sc (.k (.i .i64))),(1000000,.box [.k .l,.k (.i .i64),.k .l,.k .l,.k .l,.k (.i .i64),.k (.i .i64),.k (.i .i64),.k .s,.k .s,.k (.i .i64),.k (.i .i64),.k (.i .i64),.k (.i .i64),.k (.i .i64),.k (.i .i64),.k .s,.k (.i .i64),.k .l,.own 2000019 77 false])],[(2,[(1000000,.box [.k .l,.k (.i .i64),.k .l,.k .l,.k .l,.k (.i .i64),.k (.i .i64),.k (.i .i64),.k .s,.k .s,.k (.i .i64),.k (.i .i64),.k (.i .i64),.k (.i .i64),.k (.i .i64),.k (.i .i64),.k .s,.k (.i .i64),.k .l,.own 2000019 77 false])])],[]⟩)] [] Tryz.func114 (by kernel_rfl) (by kernel_rfl) (tU λ_=>by kernel_rfl)
def iA (sA v:MV):Option MV:=gL sA λkS=>
 gA v λcs=>
 vS cs λPath Client Kids=>
 a7 kS λlen=>
 bd (Loop (λmn=>
 gC mn λm3 n8=>
 gI .i64 m3 λx=>
 gN n8<|
 aQ (decide (x<(len:Int))) (
 idx kS x λy=>
 gA y λdP=>
 vS dP λdX ck Ea=>
 aQ ((decide (Path=dX))&&((decide (Client=ck))&&(decide (Kids=Ea)))) (
 some (.inr (1,[.i .i64 x]))) (
 some (.inl [.i .i64 (c8 .i64 (x+1))]))) (
 some (.inr (2,[])))) [.i .i64 0]) λp=>
 aQ (sh p.1 2) (
 gN p.2<|
 some (.i .i64 (-1))) (
 bU (sh p.1 1)<|
 gC p.2 λm7 ml=>
 gI .i64 m7 λx1=>
 gN ml<|
 some (.i .i64 x1))
def pF:GT:=bt 250 (dC iA) zp
theorem uk:SG pF:=sb Ce [] [] 19 [] [] [] [(4,[0,1,2,3,4,5])] [] [] [(2,⟨[0,3,7],[],[(8,.sc (.k (.i .i64)))],[(1,[(4,.sc (.k (.i .i64)))]),(2,[])],[]⟩)] [] Tryz.func250 (by kernel_rfl) (bl (λ_ _=>by kernel_rfl))
def fM (sA v:MV):Option MV:=gL sA λkS=>
 gA v λcs=>
 vS cs λPath Client Kids=>
 bd (iA (.list kS) (.agg [.s Path,.i .i64 Client,.b Kids])) λrA=>
 gI .i64 rA λx=>
 some (.b (decide ((0:Int)<=x)))
def mY:GT:=bt 229 (dC fM) pF
theorem rD:SG mY:=kQ uk [] 9 [] [] [] Tryz.func229 (by kernel_rfl) (bl (λ_ _=>by kernel_rfl))
def BE (t w:MV):Option MV:=gA t λcs=>
 gC cs λm fw=>
 gL m λL=>
 gN fw<|
 gA w λdP=>
 vS dP λPath Client Kids=>
 bd (mr (.s Path)) λrA=>
 gB rA λx=>
 aQ (!x) (
 some (.cj [.agg [.list L],.i .i64 13])) (
 aQ (decide (Client<0)) (
 some (.cj [.agg [.list L],.i .i64 1])) (
 bd (fM (.list L) (.agg [.s Path,.i .i64 Client,.b Kids])) λaT=>
 gB aT λx1=>
 aQ x1 (
 some (.cj [.agg [.list L],.i .i64 0])) (
 a7 L λlen=>
 aQ (decide ((200:Int)<=(len:Int))) (
 some (.cj [.agg [.list L],.i .i64 9])) (
 both (
 bd (iu 3 32 [.list L]) λca=>
 gF ca λxs=>
 a7 xs λcW=>
 a7 ([.agg [.s Path,.i .i64 Client,.b Kids]]:List MV) λdO=>
 bU (decide ((cW+dO) *32<=2^46))<|
 some (.cj [.agg [.list (xs++([.agg [.s Path,.i .i64 Client,.b Kids]]:List MV))],.i .i64 0])) (
 bd (iu 3 32 [.list L]) λgO=>
 gF gO λzL=>
 a7 zL λjJ=>
 a7 ([.agg [.s Path,.i .i64 Client,.b Kids]]:List MV) λlO=>
 bU (decide ((jJ+lO) *32<=2^46))<|
 some (.cj [.agg [.list (zL++([.agg [.s Path,.i .i64 Client,.b Kids]]:List MV))],.i .i64 0]))))))
def MD:GT:=bt 181 (dC BE) mY
theorem Le:SG MD:=sb rD [] [] 36 [33] [] [] [(9,[0,1,3,2,4,5,6,7,8,0,1,3,4,2,5,6,7,8,2,4])] [] [] [] [] Tryz.func181 (by kernel_rfl) (bl (λ_ _=>by kernel_rfl))
def mU (w:List MV):Option MV:=bj w λdj cK eP dE jf dt nA im fb en cA cg gV dk mQ xE ez cL eA lA=>
 bd (BE (.agg [.list dE]) (.agg [.s fb,.i .i64 dt,.b (decide (im=11))])) λrA=>
 gT rA λvs=>
 gC vs λB5 ik=>
 gA B5 λcs=>
 gC cs λQs pw=>
 gL Qs λL=>
 gN pw<|
 gC ik λTz rq=>
 gI .i64 Tz λx=>
 gN rq<|
 some (.e9 (.cj []) (az dj cK eP L jf dt nA im fb en cA cg gV dk mQ x ez cL eA lA))
def xl:GT:=bt 115 (Xj mU) MD
theorem AJ:SG xl:=R8 Le 0 kg [] [(0,1000000)] 38 [] [] [] [(0,[0,1,2,3,4,5,6,7,8,9,10,11,12,13,14,15,16,17,18]),(1,[0,1,2,3,4,5,6,7,8,9,10,11,12,13,14,15,16,17,18,19])] [] [] [] [] Tryz.func115 (by kernel_rfl) (by kernel_rfl) (tU λ_=>by kernel_rfl)
def yD:Option MV:=some (.list ([.func 105 [],.func 106 [],.func 107 [],.func 108 [],.func 109 [],.func 110 [],.func 111 [],.func 112 [],.func 113 [],.func 114 [],.func 115 [],.func 115 []]:List MV))
def JD:GT:=bt 59 (Tk yD) xl
theorem JE:SG JD:=sb AJ [] [] 2 [1] [] [] [] [] [] [] [] Tryz.func59 (by kernel_rfl) (DO (by kernel_rfl))
def qO (c w:MV):Option MV:=gA c λcs=>
 gC cs λm fw=>
 gI .i64 m λKind=>
 gC fw λm1 ek=>
 gS m1 λPath=>
 gN ek<|
 gA w λdP=>
 vS dP λdX Client Kids=>
 bd (
 aQ (decide (Kind<1)) (
 some [.b true]) (
 aQ (decide ((3:Int)<Kind)) (
 some [.b true]) (
 bd (mr (.s Path)) λrA=>
 gB rA λx=>
 some [.b (!x)]))) λvs=>
 gC vs λm5 lj=>
 gB m5 λx1=>
 gN lj<|
 aQ x1 (
 some (.b false)) (
 aQ (!Kids) (
 some (.b (decide (Path=dX)))) (
 bd (rB (.s Path)) λaT=>
 gT aT λiM=>
 jSI iM λx2 x3=>
 bd (
 aQ (decide (x3=0)) (
 aQ (!decide (Kind=2)) (
 some [.b (decide (x2=dX))]) (
 some [.b false])) (
 some [.b false])) λoO=>
 gC oO λm8 ml=>
 gB m8 λx4=>
 gN ml<|
 some (.b x4)))
def qP:GT:=bt 27 (dC qO) JD
theorem Eg:SG qP:=kQ JE [] 48 [(6,⟨[2,3,5,6],[],[],[(0,[(4,.sc (.k .b))])],[]⟩),(1,⟨[2,3],[],[],[(0,[(20,.sc (.k .b))])],[]⟩)] [] [] Tryz.func27 (by kernel_rfl) (bl (λ_ _=>by kernel_rfl))
def Cx:Ctx:=W8 qP [(2,1000002)] 17 [14] [] [] [] [] [(3,⟨[1,2,3,5],[],[],[(0,[(1000002,.box [.own 2000000 79 false])])],[]⟩)] [] []
def pG (w:MV)(c:MV)(c1:List MV):Option MV:=gA w λcs=>
 vS cs λPath Client Kids=>
 gP c λdP=>
 gC dP λm3 mn=>
 gI .i64 m3 λKind=>
 gC mn λm4 n8=>
 gS m4 λdX=>
 gN n8<|
 gC c1 λm5 lj=>
 gL m5 λx=>
 gN lj<|
 bd (qO (.agg [.i .i64 Kind,.s dX]) (.agg [.s Path,.i .i64 Client,.b Kids])) λrA=>
 gB rA λx1=>
 bd (
 aQ x1 (
 a7 x λlen=>
 a7 ([.agg [.s Path,.i .i64 Client,.b Kids,.i .i64 Kind,.s dX]]:List MV) λcW=>
 bU (decide ((len+cW) *56<=2^46))<|
 some (0,[.list (x++([.agg [.s Path,.i .i64 Client,.b Kids,.i .i64 Kind,.s dX]]:List MV))])) (
 some (0,[.list x]))) λp=>
 bU (sh p.1 0)<|
 gC p.2 λm6 ni=>
 gL m6 λxs=>
 gN ni<|
 some (.e9 (.b x1) [.list xs])
theorem G3 (w:MV)(c:MV)(c1:List MV):Lx Cx [[.i .i64,.s],[]] 2 Vq Tryz.f118 [w,c,.cell (.func 0 c1)]=pG w c c1:=by kernel_rfl
abbrev yE:List MV->Option MV:=λms=>match ms with|[a0,a1,.cell (.func off a2)]=>(match sh off 0 with|true=>pG a0 a1 a2|false=>none)|_=>none
theorem G4 {ms:List MV}{r:MV}(h:yE ms=some r): ∃c':Ctx,DJ cx c'/\c'.g=qP/\U8 c' 118 Tryz.f118 [[.i .i64,.s],[]]=true/\Lx c' [[.i .i64,.s],[]] 2 Vq Tryz.f118 ms=some r:=by
 unfold yE at h;split at h
 ·rename_i a0 a1 off a2;cases ho0:sh off 0 with
  |true=>have:=IS ho0;subst this;exact ⟨Cx,⟨rfl,rfl,rfl,rfl,rfl,rfl,rfl,rfl,rfl⟩,rfl,by kernel_rfl,(G3 _ _ _).trans h⟩
  |false=>
  rw [ho0] at h;simp only at h;cases h
 ·cases h
def yF:GT:=bt 118 yE qP
theorem Fz:SG yF:=Eg.R8 (pos:=2) (ks:=Vq) (cE:=[[.i .i64,.s],[]]) po Vl Vp Vr yl Ht Tryz.func118 (by kernel_rfl) (λ_=>rfl) G4
def Eh:GT:=yF
theorem yG (x0:MV)(x1:MV)(x2:List MV):Eh 118 [x0,x1,.cell (.func 0 x2)]=pG x0 x1 x2:=by kernel_rfl
def yH (t lA:MV):Option MV:=gA t λcs=>
 gC cs λm fw=>
 gL m λL=>
 gN fw<|
 gL lA λtX=>
 bd (iu 3 32 [.list L]) λrA=>
 gF rA λxs=>
 a7 tX λlen=>
 bd (Loop (λek=>
 KY ek λleft out x=>
 aQ (decide (x<(len:Int))) (
 idx tX x λy=>
 gA y λdP=>
 gC dP λm4 lj=>
 gI .i64 m4 λKind=>
 gC lj λm5 ni=>
 gS m5 λPath=>
 gN ni<|
 bU (left.all Sn)<|
 bd (nr (Lw Eh 118 [.rp [.i .i64 Kind,.s Path]]) [.list out] left) λaT=>
 gC aT.2 λm6 lk=>
 gL m6 λx1=>
 gN lk<|
 some (.inl [.list aT.1,.list x1,.i .i64 (c8 .i64 (x+1))])) (
 some (.inr (2,[.list left,.list out])))) [.list xs,.list ([]:List MV),.i .i64 0]) λp=>
 bU (sh p.1 2)<|
 Yp p.2 λabd kR=>
 some (.cj [.agg [.list abd],.list kR])
def C0:GT:=bt 60 (dC yH) yF
theorem JF:SG C0:=sb Fz [] [] 26 [] [25] [(8,[7])] [(8,[0,1,2,3,4])] [] [] [(4,⟨[4,13,14],[],[(6,.sc (.own 12 75 false)),(7,.box [.own 2000000 79 false]),(15,.sc (.k (.i .i64)))],[(2,[(6,.sc (.own 12 75 false)),(7,.box [.own 2000000 79 false])])],[]⟩)] [] Tryz.func60 (by kernel_rfl) (bl (λ_ _=>by kernel_rfl))
def dM:GT:=C0
theorem rE (x0:List MV):dM 105 [.cell (.func 0 x0)]=kv x0:=by kernel_rfl
theorem rV (x0:List MV):dM 106 [.cell (.func 0 x0)]=lH x0:=by kernel_rfl
theorem uH (x0:List MV):dM 107 [.cell (.func 0 x0)]=pD x0:=by kernel_rfl
theorem uI (x0:List MV):dM 108 [.cell (.func 0 x0)]=pE x0:=by kernel_rfl
theorem rW (x0:List MV):dM 109 [.cell (.func 0 x0)]=lI x0:=by kernel_rfl
theorem ul (x0:List MV):dM 110 [.cell (.func 0 x0)]=nT x0:=by kernel_rfl
theorem um (x0:List MV):dM 111 [.cell (.func 0 x0)]=nU x0:=by kernel_rfl
theorem sL (x0:List MV):dM 112 [.cell (.func 0 x0)]=mS x0:=by kernel_rfl
theorem sM (x0:List MV):dM 113 [.cell (.func 0 x0)]=mT x0:=by kernel_rfl
theorem uo (x0:List MV):dM 114 [.cell (.func 0 x0)]=nV x0:=by kernel_rfl
theorem sN (x0:List MV):dM 115 [.cell (.func 0 x0)]=mU x0:=by kernel_rfl
def oK (a a1:MV):Option MV:=gA a λcs=>
 fI cs λbW bN dg b7 Seen=>
 gA a1 λdP=>
 gU dP λClient Seq Kind Path Value Version Session Span=>
 bd (mP (.agg (cD bW bN dg b7 Seen)) (.agg (dB Client Seq Kind Path Value Version Session Span))) λrA=>
 gT rA λvs=>
 gC vs λTt tZ=>
 gA Tt λlu=>
 cv lu λck mO E cT bJ Names=>
 gC tZ λB5 ik=>
 gB B5 λx=>
 gN ik<|
 aQ x (
 some (.cj [.agg (cD bW bN dg b7 Seen),.agg (bR ck mO E cT bJ Names),.list ([]:List MV)])) (
 bd (yD) λaT=>
 gL aT λx1=>
 idx x1 Kind λy=>
 gR y λx2=>
 Sd x2 λfn cap=>
 gN cap<|
 bd (KD [105,106,107,108,109,110,111,112,113,114,115] fn λk=>dM k [.cell (.func 0 (az bW bN dg b7 Seen Client Seq Kind Path Value Version Session Span ck mO E cT bJ Names ([]:List MV)))]) λca=>
 gW ca λx3 ls=>
 bj ls λdj cK eP dE jf dt nA im fb en cA cg gV dk mQ xE ez cL eA lA=>
 bd (yH (.agg [.list dE]) (.list lA)) λgO=>
 gT gO λiM=>
 gC iM λm41 abe=>
 gA m41 λlZ=>
 gC lZ λm42 QA=>
 gL m42 λL=>
 gN QA<|
 gC abe λm43 Ji=>
 gL m43 λx4=>
 gN Ji<|
 bd (iu 6 72 [.list Seen]) λoP=>
 gF oP λxs=>
 bd (j9 (.agg (cD bW bN dg b7 Seen)) (.i .i64 Client)) λrR=>
 gT rR λoO=>
 Vm oO λx5 x6=>
 bd (
 aQ x6 (
 idx xs x5 λy1=>
 gA y1 λKZ=>
 cv KZ λnQ Tw E1 ll ft iS=>
 some (0,(az dj cK eP L (xs.set (AI x5) (.agg (bR dk mQ xE ez cL eA))) dt nA im fb en cA cg gV dk mQ xE ez cL eA lA))) (
 bd (ko 72 [.fresh xs,.i .i64 x5,.fresh ([.agg (bR dk mQ xE ez cL eA)]:List MV)]) λzg=>
 gF zg λzL=>
 some (0,(az dj cK eP L zL dt nA im fb en cA cg gV dk mQ xE ez cL eA lA)))) λp=>
 bU (sh p.1 0)<|
 dn .i64 .i64 .i64 .i64 .i64 .i64 .i64 .i64 .i64 .i64 .i64 p.2 λx7 x8 x9 pq Jd rn zK zw DW CU EU Ft Fu GV O7 Sb Yr x23 x24 Yq=>
 both (
 some (.cj [.agg (cD x7 x8 x9 pq Jd),.agg (bR GV O7 Sb Yr x23 x24),.list x4])) (
 some (.cj [.agg (cD x7 x8 x9 pq Jd),.agg (bR GV O7 Sb Yr x23 x24),.list x4])))
def Gw:GT:=bt 18 (dC oK) C0
theorem G5:SG Gw:=sb JF [] [] 103 [] [21] [(2,[7])] [(3,[0,1,2,3,4]),(5,[1,2,5,0,3,4,6]),(6,[0,1,2,3,4,5,6,7,8,9,10,11,12,13,14,15]),(7,[0,1,2,3,4,5,6,7,8,9,10,11,12,13]),(10,[0,1,2,3,4,5,6,7,8,9,10,11]),(11,[0,1,2,3,4,5,6,7,8,9,10,11,12,13,14,15,16]),(12,[0,1,2,3,4,5,6,8,9,7,10,11,0,1,2,3,4,5,6,7,8,9,10,11,9,7])] [] [(10,⟨[4,5,11,12],[],[],[(0,[(26,.box [.k .l,.k (.i .i64),.k .l,.k .l,.own 52 57 false,.k (.i .i64),.k (.i .i64),.k (.i .i64),.k .s,.k .s,.k (.i .i64),.k (.i .i64),.k (.i .i64),.k (.i .i64),.k (.i .i64),.k (.i .i64),.k .s,.k (.i .i64),.k .l,.own 2000019 77 true]),(9,.pt 26 0)])],[89,90,2000019]⟩)] [] [105,106,107,108,109,110,111,112,113,114,115] Tryz.func18 (by kernel_rfl) (bl (λ_ _=>by kernel_rfl))
def BF:Option MV:=some (.agg [.list ([.agg (fq ([47]:List UInt8) ([]:List UInt8) 0 0)]:List MV)])
def MF:GT:=bt 71 (Tk BF) Gw
theorem Lf:SG MF:=kQ G5 [] 4 [] [] [] Tryz.func71 (by kernel_rfl) (DO (by kernel_rfl))
def BG:Option MV:=some (.agg [.i .i64 0,.list ([]:List MV)])
def MG:GT:=bt 72 (Tk BG) MF
theorem Lg:SG MG:=kQ Lf [] 2 [] [] [] Tryz.func72 (by kernel_rfl) (DO (by kernel_rfl))
def BH:Option MV:=bd (BF) λrA=>
 gA rA λcs=>
 gC cs λm fw=>
 gL m λL=>
 gN fw<|
 bd (BG) λaT=>
 gA aT λdP=>
 Hs dP λct L1=>
 some (.agg (cD L ct L1 ([]:List MV) ([]:List MV)))
def MH:GT:=bt 26 (Tk BH) MG
theorem Lh:SG MH:=kQ Lg [] 4 [] [] [] Tryz.func26 (by kernel_rfl) (DO (by kernel_rfl))
def jd (s1 s2:MV):Option MV:=gL s1 λud=>
 gL s2 λzB=>
 a7 ud λlen=>
 a7 zB λcW=>
 aQ (!decide ((len:Int)=(cW:Int))) (
 some (.b false)) (
 a7 ud λdO=>
 bd (Loop (λfw=>
 gC fw λm ek=>
 gI .i64 m λx=>
 gN ek<|
 aQ (decide (x<(dO:Int))) (
 idx ud x λy=>
 gA y λcs=>
 fa cs λPath Value Version bF=>
 idx zB x λy1=>
 gA y1 λdP=>
 fa dP λdX cT bJ pu=>
 aQ (!((decide (Path=dX))&&((decide (Value=cT))&&((decide (Version=bJ))&&(decide (bF=pu)))))) (
 some (.inr (1,[.b false]))) (
 some (.inl [.i .i64 (c8 .i64 (x+1))]))) (
 some (.inr (2,[])))) [.i .i64 0]) λp=>
 aQ (sh p.1 2) (
 gN p.2<|
 some (.b true)) (
 bU (sh p.1 1)<|
 gC p.2 λm9 nz=>
 gB m9 λx1=>
 gN nz<|
 some (.b x1)))
def pX:GT:=bt 139 (dC jd) MH
theorem uJ:SG pX:=sb Lh [] [] 26 [] [] [] [(6,[0,1,2,3,4,5,6,7,8])] [] [] [(4,⟨[0,1,12],[],[(13,.sc (.k (.i .i64)))],[(1,[(4,.sc (.k .b))]),(2,[])],[]⟩)] [] Tryz.func139 (by kernel_rfl) (bl (λ_ _=>by kernel_rfl))
def yI (a b:MV):Option MV:=gA a λcs=>
 gC cs λm fw=>
 gL m λL=>
 gN fw<|
 gA b λdP=>
 gC dP λm1 ek=>
 gL m1 λL1=>
 gN ek<|
 bd (jd (.list L) (.list L1)) λrA=>
 gB rA λx=>
 some (.b x)
def JG:GT:=bt 76 (dC yI) pX
theorem JH:SG JG:=kQ uJ [] 10 [] [] [] Tryz.func76 (by kernel_rfl) (bl (λ_ _=>by kernel_rfl))
def ga (s1 s2:MV):Option MV:=gL s1 λud=>
 gL s2 λzB=>
 a7 ud λlen=>
 a7 zB λcW=>
 aQ (!decide ((len:Int)=(cW:Int))) (
 some (.b false)) (
 a7 ud λdO=>
 bd (Loop (λfw=>
 gC fw λm ek=>
 gI .i64 m λx=>
 gN ek<|
 aQ (decide (x<(dO:Int))) (
 idx ud x λy=>
 gA y λcs=>
 vT cs λId Span cF=>
 idx zB x λy1=>
 gA y1 λdP=>
 vT dP λSa pT rS=>
 aQ (!((decide (Id=Sa))&&((decide (Span=pT))&&(decide (cF=rS))))) (
 some (.inr (1,[.b false]))) (
 some (.inl [.i .i64 (c8 .i64 (x+1))]))) (
 some (.inr (2,[])))) [.i .i64 0]) λp=>
 aQ (sh p.1 2) (
 gN p.2<|
 some (.b true)) (
 bU (sh p.1 1)<|
 gC p.2 λm7 ml=>
 gB m7 λx1=>
 gN ml<|
 some (.b x1)))
def nF:GT:=bt 140 (dC ga) JG
theorem rX:SG nF:=sb JH [] [] 26 [] [] [] [(6,[0,1,2,3,4,5,6,7,8])] [] [] [(4,⟨[0,1,12],[],[(13,.sc (.k (.i .i64)))],[(1,[(4,.sc (.k .b))]),(2,[])],[]⟩)] [] Tryz.func140 (by kernel_rfl) (bl (λ_ _=>by kernel_rfl))
def yJ (a b:MV):Option MV:=gA a λcs=>
 Hs cs λct L=>
 gA b λdP=>
 Hs dP λaiO L1=>
 bd (
 aQ (decide (ct=aiO)) (
 bd (ga (.list L) (.list L1)) λrA=>
 gB rA λx=>
 some [.b x]) (
 some [.b false])) λvs=>
 gC vs λm4 n8=>
 gB m4 λx1=>
 gN n8<|
 some (.b x1)
def JI:GT:=bt 77 (dC yJ) nF
theorem JJ:SG JI:=kQ rX [] 17 [(1,⟨[2,3],[],[],[(0,[(4,.sc (.k .b))])],[]⟩)] [] [] Tryz.func77 (by kernel_rfl) (bl (λ_ _=>by kernel_rfl))
def iB (s1 s2:MV):Option MV:=gL s1 λud=>
 gL s2 λzB=>
 a7 ud λlen=>
 a7 zB λcW=>
 aQ (!decide ((len:Int)=(cW:Int))) (
 some (.b false)) (
 a7 ud λdO=>
 bd (Loop (λfw=>
 gC fw λm ek=>
 gI .i64 m λx=>
 gN ek<|
 aQ (decide (x<(dO:Int))) (
 idx ud x λy=>
 gA y λcs=>
 vS cs λPath Client Kids=>
 idx zB x λy1=>
 gA y1 λdP=>
 vS dP λdX ck Ea=>
 aQ (!((decide (Path=dX))&&((decide (Client=ck))&&(decide (Kids=Ea))))) (
 some (.inr (1,[.b false]))) (
 some (.inl [.i .i64 (c8 .i64 (x+1))]))) (
 some (.inr (2,[])))) [.i .i64 0]) λp=>
 aQ (sh p.1 2) (
 gN p.2<|
 some (.b true)) (
 bU (sh p.1 1)<|
 gC p.2 λm7 ml=>
 gB m7 λx1=>
 gN ml<|
 some (.b x1)))
def pH:GT:=bt 141 (dC iB) JI
theorem uq:SG pH:=sb JJ [] [] 26 [] [] [] [(6,[0,1,2,3,4,5,6,7,8])] [] [] [(4,⟨[0,1,12],[],[(13,.sc (.k (.i .i64)))],[(1,[(4,.sc (.k .b))]),(2,[])],[]⟩)] [] Tryz.func141 (by kernel_rfl) (bl (λ_ _=>by kernel_rfl))
def yK (a b:MV):Option MV:=gA a λcs=>
 gC cs λm fw=>
 gL m λL=>
 gN fw<|
 gA b λdP=>
 gC dP λm1 ek=>
 gL m1 λL1=>
 gN ek<|
 bd (iB (.list L) (.list L1)) λrA=>
 gB rA λx=>
 some (.b x)
def JK:GT:=bt 78 (dC yK) pH
theorem JL:SG JK:=kQ uq [] 10 [] [] [] Tryz.func78 (by kernel_rfl) (bl (λ_ _=>by kernel_rfl))
def yL (a b:MV):Option MV:=gA a λcs=>
 cv cs λClient Seq E Value Version Names=>
 gA b λdP=>
 cv dP λck mO E1 cT bJ iS=>
 bd (
 aQ (decide (Client=ck)) (
 aQ (decide (Seq=mO)) (
 aQ (decide (E=E1)) (
 aQ (decide (Value=cT)) (
 aQ (decide (Version=bJ)) (
 bd (iU (.list Names) (.list iS)) λrA=>
 gB rA λx=>
 some [.b x]) (
 some [.b false])) (
 some [.b false])) (
 some [.b false])) (
 some [.b false])) (
 some [.b false])) λvs=>
 gC vs λm12 rr=>
 gB m12 λx1=>
 gN rr<|
 some (.b x1)
def C1:GT:=bt 80 (dC yL) JK
theorem JM:SG C1:=kQ JL [] 45 [(1,⟨[2,3],[],[],[(0,[(4,.sc (.k .b))])],[]⟩)] [] [] Tryz.func80 (by kernel_rfl) (bl (λ_ _=>by kernel_rfl))
def cU:GT:=C1
theorem gd (x0 x1:MV):cU 80 [x0,x1]=yL x0 x1:=by kernel_rfl
def cn (s1 s2 eq:MV):Option MV:=gL s1 λud=>
 gL s2 λzB=>
 gR eq λeq1=>
 a7 ud λlen=>
 a7 zB λcW=>
 aQ (!decide ((len:Int)=(cW:Int))) (
 some (.b false)) (
 a7 ud λdO=>
 bd (Loop (λfw=>
 gC fw λm ek=>
 gI .i64 m λx=>
 gN ek<|
 aQ (decide (x<(dO:Int))) (
 idx ud x λy=>
 gA y λcs=>
 cv cs λClient Seq E Value Version Names=>
 idx zB x λy1=>
 gA y1 λdP=>
 cv dP λck mO E1 cT bJ iS=>
 Sd eq1 λfn cap=>
 bU (!gv fn)<|
 bd (cU fn ([.agg (bR Client Seq E Value Version Names),.agg (bR ck mO E1 cT bJ iS)]++cap)) λrA=>
 gB rA λx1=>
 aQ (!x1) (
 some (.inr (1,[.b false]))) (
 some (.inl [.i .i64 (c8 .i64 (x+1))]))) (
 some (.inr (2,[])))) [.i .i64 0]) λp=>
 aQ (sh p.1 2) (
 gN p.2<|
 some (.b true)) (
 bU (sh p.1 1)<|
 gC p.2 λTt Jt=>
 gB Tt λx2=>
 gN Jt<|
 some (.b x2)))
def eD:GT:=bt 79 (GU cn) C1
theorem iL:SG eD:=kQ JM [] 32 [] [] [(4,⟨[1,2,15,16],[],[(17,.sc (.k (.i .i64)))],[(1,[(6,.sc (.k .b))]),(2,[])],[]⟩)] Tryz.func79 (by kernel_rfl) (qG (λ_ _ _=>by kernel_rfl))
def yM (a b:MV):Option MV:=gA a λcs=>
 fI cs λbW bN dg b7 Seen=>
 gA b λdP=>
 fI dP λmV kX rY nW AK=>
 bd (
 bd (yI (.agg [.list bW]) (.agg [.list mV])) λrA=>
 gB rA λx=>
 aQ x (
 bd (yJ (.agg [.i .i64 bN,.list dg]) (.agg [.i .i64 kX,.list rY])) λaT=>
 gB aT λx1=>
 aQ x1 (
 bd (yK (.agg [.list b7]) (.agg [.list nW])) λca=>
 gB ca λx2=>
 aQ x2 (
 bd (cn (.list Seen) (.list AK) (.func 80 [])) λgO=>
 gB gO λx3=>
 some [.b x3]) (
 some [.b false])) (
 some [.b false])) (
 some [.b false])) λvs=>
 gC vs λN3 nz=>
 gB N3 λx4=>
 gN nz<|
 some (.b x4)
def JN:GT:=bt 34 (dC yM) eD
theorem JO:SG JN:=kQ iL [] 31 [(1,⟨[2,3],[],[],[(0,[(4,.sc (.k .b))])],[]⟩)] [] [] Tryz.func34 (by kernel_rfl) (bl (λ_ _=>by kernel_rfl))
def xm:Option MV:=bd (BH) λrA=>
 gA rA λcs=>
 fI cs λbW bN dg b7 Seen=>
 bd (oK (.agg (cD bW bN dg b7 Seen)) (.agg (dB 1 1 1 ([47,97]:List UInt8) ([120]:List UInt8) 0 0 0))) λaT=>
 gT aT λvs=>
 gC vs λm5 lj=>
 gA m5 λdP=>
 fI dP λmV kX rY nW AK=>
 gC lj λKX tY=>
 gA KX λlu=>
 cv lu λClient Seq E Value Version Names=>
 gC tY λm18 tV=>
 gL m18 λx=>
 gN tV<|
 bd (oK (.agg (cD mV kX rY nW AK)) (.agg (dB 1 1 1 ([47,97]:List UInt8) ([120]:List UInt8) 0 0 0))) λca=>
 gT ca λiM=>
 gC iM λm19 D5=>
 gA m19 λlZ=>
 fI lZ λEi AL JP Ej QB=>
 gC D5 λm25 Jh=>
 gA m25 λKZ=>
 cv KZ λck mO E1 cT bJ iS=>
 gC Jh λm32 abf=>
 gL m32 λx1=>
 gN abf<|
 bd (ua (.agg (cD Ei AL JP Ej QB)) (.i .i64 1)) λgO=>
 gT gO λoO=>
 gC oO λm33 QC=>
 gA m33 λTv=>
 cv Tv λnQ Tw E2 ll ft I7=>
 gC QC λm40 Qw=>
 gB m40 λx2=>
 gN Qw<|
 bd (
 aQ (decide (E=0)) (
 aQ (decide (E1=0)) (
 a7 mV λlen=>
 aQ (decide ((len:Int)=2)) (
 bd (yM (.agg (cD mV kX rY nW AK)) (.agg (cD Ei AL JP Ej QB))) λoP=>
 gB oP λx3=>
 aQ x3 (
 aQ x2 (
 some [.b (decide (Tw=1))]) (
 some [.b false])) (
 some [.b false])) (
 some [.b false])) (
 some [.b false])) (
 some [.b false])) λTx=>
 gC Tx λm41 abe=>
 gB m41 λx4=>
 gN abe<|
 some (.b x4)
def MI:GT:=bt 17 (Tk xm) JN
theorem Li:SG MI:=sb JO [] [] 58 [] [] [] [(2,[1,0,2,3,4,5,6,7,8,9,10,11])] [(5,⟨[2,3,5,6,8,9],[],[],[(0,[(0,.sc (.k .b))])],[]⟩)] [] [] [] Tryz.func17 (by kernel_rfl) (DO (by kernel_rfl))
def Ek (kind:MV):Option MV:=gI .i64 kind λpW=>
 aQ (decide (pW=1)) (
 some (.s ([112,118,115]:List UInt8))) (
 bd (
 aQ (decide (pW=2)) (
 some (0,[.b (decide (pW=2))])) (
 bd (
 aQ (decide (pW=5)) (
 some (0,[.b (decide (pW=5))])) (
 bd (
 aQ (decide (pW=10)) (
 some (0,[.b (decide (pW=10))])) (
 some (0,[.b (decide (pW=11))]))) λp2=>
 bU (sh p2.1 0)<|
 gC p2.2 λm fw=>
 gB m λx=>
 gN fw<|
 some (0,[.b x]))) λp1=>
 bU (sh p1.1 0)<|
 gC p1.2 λm1 ek=>
 gB m1 λx1=>
 gN ek<|
 some (0,[.b x1]))) λp=>
 bU (sh p.1 0)<|
 gC p.2 λm2 iT=>
 gB m2 λx2=>
 gN iT<|
 aQ x2 (
 some (.s ([112]:List UInt8))) (
 aQ (decide (pW=3)) (
 some (.s ([112,118,110]:List UInt8))) (
 aQ (decide (pW=4)) (
 some (.s ([112,110]:List UInt8))) (
 aQ (decide (pW=6)) (
 some (.s ([115,116]:List UInt8))) (
 bd (
 aQ (decide (pW=7)) (
 some (0,[.b (decide (pW=7))])) (
 some (0,[.b (decide (pW=8))]))) λp3=>
 bU (sh p3.1 0)<|
 gC p3.2 λm3 mn=>
 gB m3 λx3=>
 gN mn<|
 aQ x3 (
 some (.s ([115]:List UInt8))) (
 aQ (decide (pW=9)) (
 some (.s ([116]:List UInt8))) (
 some (.s ([]:List UInt8)))))))))
def QD:GT:=bt 124 (mb Ek) MI
theorem Ob:SG QD:=kQ Li [] 22 [] [(16,⟨[3],[],[],[(0,[(17,.sc (.k .b))])],[]⟩),(7,⟨[3],[],[],[(0,[(6,.sc (.k .b))])],[]⟩),(6,⟨[3],[],[],[(0,[(6,.sc (.k .b))])],[]⟩),(5,⟨[3],[],[],[(0,[(6,.sc (.k .b))])],[]⟩)] [] Tryz.func124 (by kernel_rfl) (dp (λ_=>by kernel_rfl))
def qp (sA c:MV):Option MV:=gS sA λkS=>
 gI .u8 c λc1=>
 bd (Loop (λfw=>
 gC fw λm ek=>
 gI .i64 m λi=>
 gN ek<|
 aQ (decide (i<(kS.length:Int))) (
 bU (decide ((0:Int)<=i/\i<(kS.length:Int)))<|
 aQ (decide (((kS.getD (AI i) 0).toNat:Int)=c1)) (
 some (.inr (1,[.b true]))) (
 some (.inl [.i .i64 (c8 .i64 (i+1))]))) (
 some (.inr (2,[])))) [.i .i64 0]) λp=>
 aQ (sh p.1 2) (
 gN p.2<|
 some (.b false)) (
 bU (sh p.1 1)<|
 gC p.2 λm1 iT=>
 gB m1 λx=>
 gN iT<|
 some (.b x))
def abg:GT:=bt 125 (dC qp) QD
theorem TA:SG abg:=kQ Ob [] 17 [] [] [(2,⟨[0,1],[],[(5,.sc (.k (.i .i64)))],[(1,[(4,.sc (.k .b))]),(2,[])],[]⟩)] Tryz.func125 (by kernel_rfl) (bl (λ_ _=>by kernel_rfl))
def Hw (a:MV):Option MV:=gA a λcs=>
 gU cs λClient Seq Kind Path Value Version Session Span=>
 bd (
 aQ (decide (Client<0)) (
 some [.b true]) (
 aQ (decide ((1000:Int)<Client)) (
 some [.b true]) (
 aQ (decide (Seq<1)) (
 some [.b true]) (
 aQ (decide ((1000000000:Int)<Seq)) (
 some [.b true]) (
 aQ (decide (Kind<0)) (
 some [.b true]) (
 aQ (decide ((11:Int)<Kind)) (
 some [.b true]) (
 aQ (decide ((100:Int)<(Path.length:Int))) (
 some [.b true]) (
 some [.b (decide ((1000:Int)<(Value.length:Int)))])))))))) λvs=>
 gC vs λm8 ml=>
 gB m8 λx=>
 gN ml<|
 aQ x (
 some (.b false)) (
 bd (Ek (.i .i64 Kind)) λrA=>
 gS rA λx1=>
 bd (
 bd (qp (.s x1) (.i .u8 112)) λaT=>
 gB aT λx2=>
 aQ x2 (
 bd (qp (.s x1) (.i .u8 118)) λca=>
 gB ca λx3=>
 aQ x3 (
 some [.b true]) (
 some [.b (decide (Value=([]:List UInt8)))])) (
 aQ (decide (Path=([]:List UInt8))) (
 bd (qp (.s x1) (.i .u8 118)) λgO=>
 gB gO λx4=>
 aQ x4 (
 some [.b true]) (
 some [.b (decide (Value=([]:List UInt8)))])) (
 some [.b false]))) λiM=>
 gC iM λm9 yo=>
 gB m9 λx5=>
 gN yo<|
 bd (
 aQ x5 (
 bd (qp (.s x1) (.i .u8 110)) λoP=>
 gB oP λx6=>
 aQ x6 (
 bd (qp (.s x1) (.i .u8 115)) λrR=>
 gB rR λx7=>
 aQ x7 (
 bd (qp (.s x1) (.i .u8 116)) λzg=>
 gB zg λx8=>
 aQ x8 (
 some [.b true]) (
 some [.b (decide (Span=0))])) (
 aQ (decide (Session=0)) (
 bd (qp (.s x1) (.i .u8 116)) λHq=>
 gB Hq λx9=>
 aQ x9 (
 some [.b true]) (
 some [.b (decide (Span=0))])) (
 some [.b false]))) (
 aQ (decide (Version=0)) (
 bd (qp (.s x1) (.i .u8 115)) λKB=>
 gB KB λpq=>
 aQ pq (
 bd (qp (.s x1) (.i .u8 116)) λR9=>
 gB R9 λrn=>
 aQ rn (
 some [.b true]) (
 some [.b (decide (Span=0))])) (
 aQ (decide (Session=0)) (
 bd (qp (.s x1) (.i .u8 116)) λAm=>
 gB Am λzK=>
 aQ zK (
 some [.b true]) (
 some [.b (decide (Span=0))])) (
 some [.b false]))) (
 some [.b false]))) (
 some [.b false])) λoO=>
 gC oO λN3 nz=>
 gB N3 λzw=>
 gN nz<|
 some (.b zw))
def Vy:GT:=bt 64 (mb Hw) abg
theorem QE:SG Vy:=kQ TA [] 92 [(5,⟨[1,3,4],[],[],[(0,[(2,.sc (.k .b))])],[]⟩),(4,⟨[1,3],[],[],[(0,[(4,.sc (.k .b))])],[]⟩),(1,⟨[1],[],[],[(0,[(44,.sc (.k .b))])],[]⟩)] [] [] Tryz.func64 (by kernel_rfl) (dp (λ_=>by kernel_rfl))
def El (rA dI:MV):Option MV:=gA rA λcs=>
 fI cs λbW bN dg b7 Seen=>
 gI .i64 dI λyp=>
 bd (Loop (λlj=>
 gC lj λm5 ni=>
 gI .i64 m5 λx=>
 gC ni λm6 lk=>
 gI .i64 m6 λx1=>
 gC lk λm7 ml=>
 gI .i64 m7 λx2=>
 gC ml λm8 yo=>
 gS m8 λx3=>
 gC yo λm9 nz=>
 gI .i64 m9 λx4=>
 Gm nz λx5 i=>
 a7 Seen λlen=>
 aQ (decide (i<(len:Int))) (
 idx Seen i λy=>
 gA y λdP=>
 cv dP λClient Seq E Value Version Names=>
 aQ (decide (Client=yp)) (
 idx Seen i λy1=>
 gA y1 λlu=>
 cv lu λck mO E1 cT bJ iS=>
 some (.inr (1,[.i .i64 ck,.i .i64 mO,.i .i64 E1,.s cT,.i .i64 bJ,.list iS,.b true]))) (
 some (.inl [.i .i64 x,.i .i64 x1,.i .i64 x2,.s x3,.i .i64 x4,.list x5,.i .i64 (c8 .i64 (i+1))]))) (
 some (.inr (2,(bR x x1 x2 x3 x4 x5))))) [.i .i64 0,.i .i64 0,.i .i64 0,.s ([]:List UInt8),.i .i64 0,.list ([]:List MV),.i .i64 0]) λp=>
 aQ (sh p.1 2) (
 DV .i64 .i64 .i64 .i64 p.2 λx6 x7 x8 x9 pq rn=>
 some (.cj [.agg (bR 0 0 0 ([]:List UInt8) 0 ([]:List MV)),.b false])) (
 bU (sh p.1 1)<|
 gC p.2 λm30 QF=>
 gI .i64 m30 λzK=>
 gC QF λm31 abf=>
 gI .i64 m31 λzw=>
 gC abf λm32 QC=>
 gI .i64 m32 λDW=>
 gC QC λm33 JQ=>
 gS m33 λCU=>
 gC JQ λm34 QG=>
 gI .i64 m34 λEU=>
 O6 QG λFt Fu=>
 some (.cj [.agg (bR zK zw DW CU EU Ft),.b Fu]))
def QH:GT:=bt 65 (dC El) Vy
theorem Oc:SG QH:=kQ QE [] 28 [] [] [(2,⟨[1,2],[],[(4,.box [.k (.i .i64),.k (.i .i64),.k (.i .i64),.k .s,.k (.i .i64),.k .l]),(6,.sc (.k (.i .i64)))],[(1,[(4,.box [.k (.i .i64),.k (.i .i64),.k (.i .i64),.k .s,.k (.i .i64),.k .l]),(5,.sc (.k .b))]),(2,[(4,.box [.k (.i .i64),.k (.i .i64),.k (.i .i64),.k .s,.k (.i .i64),.k .l])])],[]⟩)] Tryz.func65 (by kernel_rfl) (bl (λ_ _=>by kernel_rfl))
def yN (b id:MV):Option MV:=gA b λcs=>
 Hs cs λct L=>
 gI .i64 id λHv=>
 bd (Loop (λiT=>
 gC iT λm2 mn=>
 gI .i64 m2 λi=>
 gN mn<|
 a7 L λlen=>
 aQ (decide (i<(len:Int))) (
 idx L i λy=>
 gA y λdP=>
 vT dP λId Span cF=>
 aQ (decide (Id=Hv)) (
 some (.inr (1,[.b true]))) (
 some (.inl [.i .i64 (c8 .i64 (i+1))]))) (
 some (.inr (2,[])))) [.i .i64 0]) λp=>
 aQ (sh p.1 2) (
 gN p.2<|
 some (.b false)) (
 bU (sh p.1 1)<|
 gC p.2 λm6 lk=>
 gB m6 λx=>
 gN lk<|
 some (.b x))
def Vz:GT:=bt 185 (dC yN) QH
theorem QI:SG Vz:=kQ Oc [] 21 [] [] [(2,⟨[1,2],[],[(5,.sc (.k (.i .i64)))],[(1,[(4,.sc (.k .b))]),(2,[])],[]⟩)] Tryz.func185 (by kernel_rfl) (bl (λ_ _=>by kernel_rfl))
def yO (a a1 a2 a3:MV):Option MV:=gA a λcs=>
 gC cs λm fw=>
 gL m λL=>
 gN fw<|
 gS a1 λln=>
 gS a2 λCf=>
 gI .i64 a3 λabh=>
 bd (kZ (.s ln)) λrA=>
 gB rA λx=>
 aQ (!x) (
 some (.cj [.agg [.list L],.i .i64 13])) (
 bd (vU (.agg [.list L]) (.s ln)) λaT=>
 gI .i64 aT λx1=>
 aQ (decide ((0:Int)<=x1)) (
 some (.cj [.agg [.list L],.i .i64 7])) (
 bd (n9 (.s ln)) λca=>
 gT ca λvs=>
 jSI vs λx2 x3=>
 bd (vU (.agg [.list L]) (.s x2)) λgO=>
 gI .i64 gO λx4=>
 aQ (decide (x4<0)) (
 some (.cj [.agg [.list L],.i .i64 6])) (
 idx L x4 λy=>
 gA y λdP=>
 fa dP λPath Value Version bF=>
 aQ (!decide (bF=0)) (
 some (.cj [.agg [.list L],.i .i64 10])) (
 aQ (decide ((1000:Int)<(Cf.length:Int))) (
 some (.cj [.agg [.list L],.i .i64 5])) (
 aQ (decide (abh<0)) (
 some (.cj [.agg [.list L],.i .i64 1])) (
 a7 L λlen=>
 aQ (decide ((200:Int)<=(len:Int))) (
 some (.cj [.agg [.list L],.i .i64 9])) (
 bd (Loop (λlk=>
 gC lk λm7 ml=>
 gL m7 λxs=>
 gC ml λm8 yo=>
 gB m8 λx5=>
 gC yo λm9 nz=>
 gI .i64 m9 λx6=>
 gN nz<|
 a7 L λcW=>
 aQ (decide (x6<(cW:Int))) (
 bd (
 aQ (!x5) (
 idx L x6 λy1=>
 gA y1 λlu=>
 fa lu λdX cT bJ pu=>
 bd (xf (.s ln) (.s dX)) λoP=>
 gB oP λx7=>
 some [.b x7]) (
 some [.b false])) λiM=>
 gC iM λm14 Eb=>
 gB m14 λx8=>
 gN Eb<|
 bd (
 aQ x8 (
 a7 xs λdO=>
 a7 ([.agg (fq ln Cf 0 abh)]:List MV) λjJ=>
 bU (decide ((dO+jJ) *48<=2^46))<|
 some (0,[.list (xs++([.agg (fq ln Cf 0 abh)]:List MV)),.b true])) (
 some (0,[.list xs,.b x5]))) λp1=>
 bU (sh p1.1 0)<|
 O6 p1.2 λzL x9=>
 idx L x6 λy2=>
 gA y2 λlZ=>
 fa lZ λtW ll ft Av=>
 a7 zL λlO=>
 a7 ([.agg (fq tW ll ft Av)]:List MV) λym=>
 bU (decide ((lO+ym) *48<=2^46))<|
 some (.inl [.list (zL++([.agg (fq tW ll ft Av)]:List MV)),.b x9,.i .i64 (c8 .i64 (x6+1))])) (
 some (.inr (2,[.list xs,.b x5])))) [.list ([]:List MV),.b false,.i .i64 0]) λp=>
 bU (sh p.1 2)<|
 O6 p.2 λJd pq=>
 bd (
 aQ (!pq) (
 a7 Jd λAu=>
 a7 ([.agg (fq ln Cf 0 abh)]:List MV) λI5=>
 bU (decide ((Au+I5) *48<=2^46))<|
 some (0,[.list (Jd++([.agg (fq ln Cf 0 abh)]:List MV))])) (
 some (0,[.list Jd]))) λp2=>
 bU (sh p2.1 0)<|
 gC p2.2 λN8 Ax=>
 gL N8 λYq=>
 gN Ax<|
 some (.cj [.agg [.list Yq],.i .i64 0]))))))))
def JR:GT:=bt 186 (WX yO) Vz
theorem JS:SG JR:=sb QI [] [] 101 [83,91,97] [] [] [] [(23,⟨[1,4,8,13,14,15,16],[57],[],[(0,[(80,.sc (.k .b))])],[57]⟩)] [(28,⟨[8,14],[],[],[(0,[(13,.sc (.own 57 124 true))])],[57]⟩),(24,⟨[1,4,8,14,16],[],[],[(0,[(13,.sc (.own 57 124 true)),(15,.sc (.k .b))])],[57]⟩)] [(21,⟨[1,4,8,14],[],[(13,.sc (.own 57 124 true)),(15,.sc (.k .b)),(16,.sc (.k (.i .i64)))],[(2,[(13,.sc (.own 57 124 true)),(15,.sc (.k .b))])],[57]⟩)] [] Tryz.func186 (by kernel_rfl) (Ho (λ_ _ _ _=>by kernel_rfl))
def vt (sA p:MV):Option MV:=gA sA λcs=>
 gC cs λm fw=>
 gL m λL=>
 gN fw<|
 gS p λp1=>
 bd (kZ (.s p1)) λrA=>
 gB rA λx=>
 aQ (!x) (
 some (.cj [.agg (fq ([]:List UInt8) ([]:List UInt8) 0 0),.i .i64 13])) (
 bd (vU (.agg [.list L]) (.s p1)) λaT=>
 gI .i64 aT λx1=>
 aQ (decide (x1<0)) (
 some (.cj [.agg (fq ([]:List UInt8) ([]:List UInt8) 0 0),.i .i64 6])) (
 idx L x1 λy=>
 gA y λdP=>
 fa dP λPath Value Version bF=>
 some (.cj [.agg (fq Path Value Version bF),.i .i64 0])))
def VA:GT:=bt 187 (dC vt) JR
theorem QJ:SG VA:=kQ JS [] 22 [] [] [] Tryz.func187 (by kernel_rfl) (bl (λ_ _=>by kernel_rfl))
def Hx (sA p value version:MV):Option MV:=gA sA λcs=>
 gC cs λm fw=>
 gL m λL=>
 gN fw<|
 gS p λp1=>
 gS value λue=>
 gI .i64 version λkV=>
 bd (vt (.agg [.list L]) (.s p1)) λrA=>
 gT rA λvs=>
 gC vs λm1 ek=>
 gA m1 λdP=>
 fa dP λPath Value Version bF=>
 gC ek λm6 ni=>
 gI .i64 m6 λx=>
 gN ni<|
 aQ (!decide (x=0)) (
 some (.cj [.agg [.list L],.i .i64 x])) (
 bd (
 aQ (!decide (kV=(-1))) (
 some [.b (!decide (kV=Version))]) (
 some [.b false])) λiM=>
 gC iM λm7 lk=>
 gB m7 λx1=>
 gN lk<|
 aQ x1 (
 some (.cj [.agg [.list L],.i .i64 8])) (
 aQ (decide ((1000:Int)<(ue.length:Int))) (
 some (.cj [.agg [.list L],.i .i64 5])) (
 aQ (decide (Version=1000000000)) (
 some (.cj [.agg [.list L],.i .i64 9])) (
 bU (qa 4 L)<|
 a7 ([]:List MV) λlen=>
 a7 L λcW=>
 bU (decide ((len+cW) *48<=2^46))<|
 bd (vU (.agg [.list L]) (.s p1)) λaT=>
 gI .i64 aT λx2=>
 idx (([]:List MV)++L) x2 λy=>
 gA y λlu=>
 fa lu λdX cT bJ pu=>
 some (.cj [.agg [.list ((([]:List MV)++L).set (AI x2) (.agg (fq p1 ue (c8 .i64 (Version+1)) bF)))],.i .i64 0])))))
def VB:GT:=bt 188 (WX Hx) VA
theorem QK:SG VB:=sb QJ [] [] 59 [] [] [] [(11,[0,1,2,4,5,6,7,8,9,10,11,3,12,13])] [(4,⟨[1,2,3,4,8,10],[],[],[(0,[(30,.sc (.k .b))])],[]⟩)] [] [] [] Tryz.func188 (by kernel_rfl) (Ho (λ_ _ _ _=>by kernel_rfl))
def AM (sA p:MV):Option MV:=gA sA λcs=>
 gC cs λm fw=>
 gL m λL=>
 gN fw<|
 gS p λp1=>
 bd (Loop (λek=>
 Gm ek λout i=>
 a7 L λlen=>
 aQ (decide (i<(len:Int))) (
 idx L i λy=>
 gA y λdP=>
 fa dP λPath Value Version bF=>
 bd (n9 (.s Path)) λrA=>
 gT rA λvs=>
 jSI vs λx x1=>
 bd (
 aQ (decide (x1=0)) (
 some [.b (decide (x=p1))]) (
 some [.b false])) λiM=>
 gC iM λm9 nz=>
 gB m9 λx2=>
 gN nz<|
 bd (
 aQ x2 (
 idx L i λy1=>
 gA y1 λlu=>
 fa lu λdX cT bJ pu=>
 bd (qn (.s dX)) λaT=>
 gT aT λoO=>
 Gm oO λx3 x4=>
 a7 x3 λcW=>
 idx x3 (c8 .i64 ((cW:Int)-1)) λy2=>
 gS y2 λx5=>
 a7 out λdO=>
 a7 ([.s x5]:List MV) λjJ=>
 bU (decide ((dO+jJ) *16<=2^46))<|
 some (0,[.list (out++([.s x5]:List MV))])) (
 some (0,[.list out]))) λp3=>
 bU (sh p3.1 0)<|
 gC p3.2 λm16 At=>
 gL m16 λkR=>
 gN At<|
 some (.inl [.list kR,.i .i64 (c8 .i64 (i+1))])) (
 some (.inr (2,[.list out])))) [.list ([]:List MV),.i .i64 0]) λp2=>
 bU (sh p2.1 2)<|
 gC p2.2 λTu tV=>
 gL Tu λD7=>
 gN tV<|
 some (.list D7)
def QL:GT:=bt 231 (dC AM) VB
theorem Od:SG QL:=sb QK [] [] 56 [53] [] [] [] [(6,⟨[1,2,5,6,7,8],[11],[],[(0,[(35,.sc (.k .b))])],[11]⟩)] [(7,⟨[1,2,6],[],[],[(0,[(5,.sc (.own 11 9 true))])],[11]⟩)] [(3,⟨[1,2],[],[(5,.sc (.own 11 9 true)),(6,.sc (.k (.i .i64)))],[(2,[(5,.sc (.own 11 9 true))])],[11]⟩)] [] Tryz.func231 (by kernel_rfl) (bl (λ_ _=>by kernel_rfl))
def yP (sA p version:MV):Option MV:=gA sA λcs=>
 gC cs λm fw=>
 gL m λL=>
 gN fw<|
 gS p λp1=>
 gI .i64 version λkV=>
 bd (vt (.agg [.list L]) (.s p1)) λrA=>
 gT rA λvs=>
 gC vs λm1 ek=>
 gA m1 λdP=>
 fa dP λPath Value Version bF=>
 gC ek λm6 ni=>
 gI .i64 m6 λx=>
 gN ni<|
 aQ (!decide (x=0)) (
 some (.cj [.agg [.list L],.i .i64 x])) (
 aQ (decide (p1=([47]:List UInt8))) (
 some (.cj [.agg [.list L],.i .i64 13])) (
 bd (
 aQ (!decide (kV=(-1))) (
 some [.b (!decide (kV=Version))]) (
 some [.b false])) λiM=>
 gC iM λm7 lk=>
 gB m7 λx1=>
 gN lk<|
 aQ x1 (
 some (.cj [.agg [.list L],.i .i64 8])) (
 bd (AM (.agg [.list L]) (.s p1)) λaT=>
 gL aT λx2=>
 a7 x2 λlen=>
 aQ (decide ((0:Int)<(len:Int))) (
 some (.cj [.agg [.list L],.i .i64 10])) (
 bd (vU (.agg [.list L]) (.s p1)) λca=>
 gI .i64 ca λx3=>
 a7 L λcW=>
 bU (decide ((0:Int)<=0/\(0:Int)<=x3/\x3<=(cW:Int)))<|
 bU (qa 4 (By (AI 0) (BY (AI x3) L)))<|
 a7 ([]:List MV) λdO=>
 a7 (By (AI 0) (BY (AI x3) L)) λjJ=>
 bU (decide ((dO+jJ) *48<=2^46))<|
 bU (qa 4 L)<|
 a7 L λlO=>
 bU (decide ((0:Int)<=(c8 .i64 (x3+1))/\(c8 .i64 (x3+1))<=(lO:Int)/\(lO:Int)<=(lO:Int)))<|
 bU (qa 4 (By (AI (c8 .i64 (x3+1))) (BY (AI (lO:Int)) L)))<|
 a7 (([]:List MV)++(By (AI 0) (BY (AI x3) L))) λym=>
 a7 (By (AI (c8 .i64 (x3+1))) (BY (AI (lO:Int)) L)) λAu=>
 bU (decide ((ym+Au) *48<=2^46))<|
 some (.cj [.agg [.list ((([]:List MV)++(By (AI 0) (BY (AI x3) L)))++(By (AI (c8 .i64 (x3+1))) (BY (AI (lO:Int)) L)))],.i .i64 0])))))
def JT:GT:=bt 189 (GU yP) QL
theorem JU:SG JT:=kQ Od [] 58 [(6,⟨[1,2,3,6,8],[],[],[(0,[(32,.sc (.k .b))])],[43]⟩)] [] [] Tryz.func189 (by kernel_rfl) (qG (λ_ _ _=>by kernel_rfl))
def Em (sA p:MV):Option MV:=gA sA λcs=>
 gC cs λm fw=>
 gL m λL=>
 gN fw<|
 gS p λp1=>
 bd (vt (.agg [.list L]) (.s p1)) λrA=>
 gT rA λvs=>
 gC vs λm1 ek=>
 gA m1 λdP=>
 fa dP λPath Value Version bF=>
 gC ek λm6 ni=>
 gI .i64 m6 λx=>
 gN ni<|
 aQ (!decide (x=0)) (
 some (.cj [.list ([]:List MV),.i .i64 x])) (
 bd (AM (.agg [.list L]) (.s p1)) λaT=>
 gL aT λx1=>
 some (.cj [.list x1,.i .i64 0]))
def QM:GT:=bt 190 (dC Em) JT
theorem Oe:SG QM:=kQ JU [] 20 [] [] [] Tryz.func190 (by kernel_rfl) (bl (λ_ _=>by kernel_rfl))
def vu (a a1:MV):Option MV:=gA a λcs=>
 fI cs λbW bN dg b7 Seen=>
 gA a1 λdP=>
 gU dP λClient Seq Kind Path Value Version Session Span=>
 bd (
 aQ (decide (Kind=1)) (
 bd (
 aQ (!decide (Session=0)) (
 aQ (decide (Session<0)) (
 some [.b true]) (
 bd (yN (.agg [.i .i64 bN,.list dg]) (.i .i64 Session)) λrA=>
 gB rA λx=>
 some [.b (!x)])) (
 some [.b false])) λvs=>
 gC vs λTt tZ=>
 gB Tt λx1=>
 gN tZ<|
 bd (
 aQ x1 (
 some (0,[.list bW,.i .i64 bN,.list dg,.list b7,.list Seen,.i .i64 0,.i .i64 0,.i .i64 14,.s ([]:List UInt8),.i .i64 0,.list ([]:List MV)])) (
 bd (yO (.agg [.list bW]) (.s Path) (.s Value) (.i .i64 Session)) λaT=>
 gT aT λiM=>
 gC iM λm14 Jt=>
 gA m14 λlu=>
 gC lu λm15 Eb=>
 gL m15 λL=>
 gN Eb<|
 gC Jt λm16 I4=>
 gI .i64 m16 λx2=>
 gN I4<|
 some (0,[.list L,.i .i64 bN,.list dg,.list b7,.list Seen,.i .i64 0,.i .i64 0,.i .i64 x2,.s ([]:List UInt8),.i .i64 0,.list ([]:List MV)]))) λp1=>
 bU (sh p1.1 0)<|
 gC p1.2 λTu At=>
 gL Tu λx3=>
 gC At λm18 tV=>
 gI .i64 m18 λx4=>
 gC tV λm19 D5=>
 gL m19 λx5=>
 gC D5 λB5 ik=>
 gL B5 λx6=>
 gC ik λQs pw=>
 gL Qs λx7=>
 cv pw λx8 x9 pq rn zK zw=>
 some (0,(iJ x3 x4 x5 x6 x7 x8 x9 pq rn zK zw 1))) (
 bd (
 aQ (decide (Kind=2)) (
 bd (vt (.agg [.list bW]) (.s Path)) λca=>
 gT ca λoO=>
 gC oO λm28 Qv=>
 gA m28 λlZ=>
 fa lZ λdX cT bJ bF=>
 gC Qv λm33 QC=>
 gI .i64 m33 λDW=>
 gN QC<|
 some (0,(iJ bW bN dg b7 Seen 0 0 DW cT bJ ([]:List MV) 0))) (
 bd (
 aQ (decide (Kind=3)) (
 bd (Hx (.agg [.list bW]) (.s Path) (.s Value) (.i .i64 Version)) λgO=>
 gT gO λTx=>
 gC Tx λm34 JQ=>
 gA m34 λKZ=>
 gC KZ λm35 QG=>
 gL m35 λL1=>
 gN QG<|
 gC JQ λm36 I6=>
 gI .i64 m36 λCU=>
 gN I6<|
 bd (
 aQ (decide (CU=0)) (
 bd (vt (.agg [.list L1]) (.s Path)) λoP=>
 gT oP λvs4=>
 gC vs4 λm37 xe=>
 gA m37 λTv=>
 fa Tv λtW ll ft pu=>
 gC xe λm42 QA=>
 gI .i64 m42 λEU=>
 gN QA<|
 some (0,(bR 0 0 CU ([]:List UInt8) ft ([]:List MV)))) (
 some (0,(bR 0 0 CU ([]:List UInt8) 0 ([]:List MV))))) λp4=>
 bU (sh p4.1 0)<|
 DV .i64 .i64 .i64 .i64 p4.2 λFt Fu GV O7 Sb Yr=>
 some (0,(iJ L1 bN dg b7 Seen Ft Fu GV O7 Sb Yr 2))) (
 bd (
 aQ (decide (Kind=4)) (
 bd (yP (.agg [.list bW]) (.s Path) (.i .i64 Version)) λrR=>
 gT rR λvs5=>
 gC vs5 λm49 abi=>
 gA m49 λcs6=>
 gC cs6 λm50 amA=>
 gL m50 λL2=>
 gN amA<|
 gC abi λm51 aa0=>
 gI .i64 m51 λx23=>
 gN aa0<|
 some (0,(iJ L2 bN dg b7 Seen 0 0 x23 ([]:List UInt8) 0 ([]:List MV) 3))) (
 bd (
 aQ (decide (Kind=5)) (
 bd (Em (.agg [.list bW]) (.s Path)) λzg=>
 gT zg λvs6=>
 Gm vs6 λx24 x25=>
 some (0,(bR 0 0 x25 ([]:List UInt8) 0 x24))) (
 some (0,(bR 0 0 0 ([]:List UInt8) 0 ([]:List MV))))) λp6=>
 bU (sh p6.1 0)<|
 DV .i64 .i64 .i64 .i64 p6.2 λx26 x27 x28 x29 x30 x31=>
 some (0,(iJ bW bN dg b7 Seen x26 x27 x28 x29 x30 x31 0)))) λp5=>
 bU (sh p5.1 0)<|
 ny .i64 .i64 .i64 .i64 .i64 .i64 p5.2 λx32 x33 x34 x35 x36 x37 x38 x39 x40 x41 x42 x43=>
 some (0,(iJ x32 x33 x34 x35 x36 x37 x38 x39 x40 x41 x42 x43)))) λp3=>
 bU (sh p3.1 0)<|
 ny .i64 .i64 .i64 .i64 .i64 .i64 p3.2 λx44 x45 x46 x47 x48 x49 x50 x51 x52 x53 x54 x55=>
 some (0,(iJ x44 x45 x46 x47 x48 x49 x50 x51 x52 x53 x54 x55)))) λp2=>
 bU (sh p2.1 0)<|
 ny .i64 .i64 .i64 .i64 .i64 .i64 p2.2 λx56 x57 x58 x59 x60 x61 x62 x63 x64 x65 x66 x67=>
 some (0,(iJ x56 x57 x58 x59 x60 x61 x62 x63 x64 x65 x66 x67)))) λp=>
 bU (sh p.1 0)<|
 ny .i64 .i64 .i64 .i64 .i64 .i64 p.2 λx68 x69 x70 x71 x72 x73 x74 x75 x76 x77 x78 x79=>
 bd (
 aQ (decide (x75=0)) (
 some [.b (decide ((0:Int)<x79))]) (
 some [.b false])) λvs7=>
 gC vs7 λaql aiQ=>
 gB aql λx80=>
 gN aiQ<|
 aQ x80 (
 both (
 some (.cj [.agg (cD x68 x69 x70 x71 x72),.agg (bR x73 x74 x75 x76 x77 x78),.list ([.agg [.i .i64 x79,.s Path]]:List MV)])) (
 both (
 some (.cj [.agg (cD x68 x69 x70 x71 x72),.agg (bR x73 x74 x75 x76 x77 x78),.list ([.agg [.i .i64 x79,.s Path]]:List MV)])) (
 some (.cj [.agg (cD x68 x69 x70 x71 x72),.agg (bR x73 x74 x75 x76 x77 x78),.list ([.agg [.i .i64 x79,.s Path]]:List MV)])))) (
 some (.cj [.agg (cD x68 x69 x70 x71 x72),.agg (bR x73 x74 x75 x76 x77 x78),.list ([]:List MV)]))
def Gx:GT:=bt 126 (dC vu) QM
theorem G6:SG Gx:=sb Oe [] [] 155 [152] [147,150,154] [(1,[3]),(33,[7])] [(34,[0,1,2,3,4,5,6,7,8,9,0,1,2,3,4,5,7,6,8,9,0,1,2,3,4,5,7,8,6,9,6,8,6,7]),(35,[0,1,2,3,4])] [(33,⟨[2,3,4,5,7,8],[],[],[(0,[(145,.sc (.k .b))])],[]⟩),(5,⟨[2,3,4,5,7],[],[],[(0,[(41,.sc (.k .b))])],[]⟩)] [(6,⟨[3,4,5],[],[],[(0,[(2,.box [.k .l,.k (.i .i64),.k .l,.k .l,.k .l]),(7,.box [.k (.i .i64),.k (.i .i64),.k (.i .i64),.k .s,.k (.i .i64),.k .l])])],[]⟩),(21,⟨[2,3,4,5],[],[],[(0,[(7,.box [.k (.i .i64),.k (.i .i64),.k (.i .i64),.k .s,.k (.i .i64),.k .l])])],[]⟩),(30,⟨[2,3,4,5,8],[],[],[(0,[(7,.box [.k (.i .i64),.k (.i .i64),.k (.i .i64),.k .s,.k (.i .i64),.k .l])])],[]⟩),(25,⟨[3,4,5,23],[],[],[(0,[(2,.box [.k .l,.k (.i .i64),.k .l,.k .l,.k .l]),(7,.box [.k (.i .i64),.k (.i .i64),.k (.i .i64),.k .s,.k (.i .i64),.k .l]),(8,.sc (.k (.i .i64)))])],[]⟩),(17,⟨[3,4,5,23],[],[],[(0,[(2,.box [.k .l,.k (.i .i64),.k .l,.k .l,.k .l]),(7,.box [.k (.i .i64),.k (.i .i64),.k (.i .i64),.k .s,.k (.i .i64),.k .l]),(8,.sc (.k (.i .i64)))])],[]⟩),(12,⟨[3,4,5,23],[],[],[(0,[(2,.box [.k .l,.k (.i .i64),.k .l,.k .l,.k .l]),(7,.box [.k (.i .i64),.k (.i .i64),.k (.i .i64),.k .s,.k (.i .i64),.k .l]),(8,.sc (.k (.i .i64)))])],[]⟩),(5,⟨[3,4,5,23],[],[],[(0,[(2,.box [.k .l,.k (.i .i64),.k .l,.k .l,.k .l]),(7,.box [.k (.i .i64),.k (.i .i64),.k (.i .i64),.k .s,.k (.i .i64),.k .l]),(8,.sc (.k (.i .i64)))])],[]⟩)] [] [] Tryz.func126 (by kernel_rfl) (bl (λ_ _=>by kernel_rfl))
def En (a a1 a2:MV):Option MV:=gA a λcs=>
 Hs cs λct L=>
 gI .i64 a1 λln=>
 gI .i64 a2 λCf=>
 bd (
 aQ (decide (ln<1)) (
 some [.b true]) (
 aQ (decide (Cf<1)) (
 some [.b true]) (
 some [.b (decide ((1000:Int)<Cf))]))) λvs=>
 gC vs λm2 iT=>
 gB m2 λx=>
 gN iT<|
 aQ x (
 some (.cj [.agg [.i .i64 ct,.list L],.i .i64 1])) (
 bd (yN (.agg [.i .i64 ct,.list L]) (.i .i64 ln)) λrA=>
 gB rA λx1=>
 aQ x1 (
 some (.cj [.agg [.i .i64 ct,.list L],.i .i64 7])) (
 a7 L λlen=>
 aQ (decide ((50:Int)<=(len:Int))) (
 some (.cj [.agg [.i .i64 ct,.list L],.i .i64 9])) (
 bd (Loop (λmn=>
 gC mn λm3 n8=>
 gL m3 λxs=>
 gC n8 λm4 lj=>
 gB m4 λx2=>
 gC lj λm5 ni=>
 gI .i64 m5 λx3=>
 gN ni<|
 a7 L λcW=>
 aQ (decide (x3<(cW:Int))) (
 bd (
 aQ (!x2) (
 idx L x3 λy=>
 gA y λdP=>
 vT dP λId Span cF=>
 some [.b (decide (ln<Id))]) (
 some [.b false])) λiM=>
 gC iM λm9 nz=>
 gB m9 λx4=>
 gN nz<|
 bd (
 aQ x4 (
 a7 xs λdO=>
 a7 ([.agg [.i .i64 ln,.i .i64 Cf,.i .i64 (c8 .i64 (ct+Cf))]]:List MV) λjJ=>
 bU (decide ((dO+jJ) *24<=2^46))<|
 some (0,[.list (xs++([.agg [.i .i64 ln,.i .i64 Cf,.i .i64 (c8 .i64 (ct+Cf))]]:List MV)),.b true])) (
 some (0,[.list xs,.b x2]))) λp1=>
 bU (sh p1.1 0)<|
 O6 p1.2 λzL x5=>
 idx L x3 λy1=>
 gA y1 λlu=>
 vT lu λSa pT rS=>
 a7 zL λlO=>
 a7 ([.agg [.i .i64 Sa,.i .i64 pT,.i .i64 rS]]:List MV) λym=>
 bU (decide ((lO+ym) *24<=2^46))<|
 some (.inl [.list (zL++([.agg [.i .i64 Sa,.i .i64 pT,.i .i64 rS]]:List MV)),.b x5,.i .i64 (c8 .i64 (x3+1))])) (
 some (.inr (2,[.list xs,.b x2])))) [.list ([]:List MV),.b false,.i .i64 0]) λp=>
 bU (sh p.1 2)<|
 O6 p.2 λJd x6=>
 bd (
 aQ (!x6) (
 a7 Jd λAu=>
 a7 ([.agg [.i .i64 ln,.i .i64 Cf,.i .i64 (c8 .i64 (ct+Cf))]]:List MV) λI5=>
 bU (decide ((Au+I5) *24<=2^46))<|
 some (0,[.list (Jd++([.agg [.i .i64 ln,.i .i64 Cf,.i .i64 (c8 .i64 (ct+Cf))]]:List MV))])) (
 some (0,[.list Jd]))) λp2=>
 bU (sh p2.1 0)<|
 gC p2.2 λTu tV=>
 gL Tu λYq=>
 gN tV<|
 some (.cj [.agg [.i .i64 ct,.list Yq],.i .i64 0]))))
def QN:GT:=bt 127 (GU En) Gx
theorem Of:SG QN:=sb G6 [] [] 81 [61,69,75] [] [] [] [(13,⟨[1,3,6,8,9,10,11],[39],[],[(0,[(58,.sc (.k .b))])],[39]⟩),(1,⟨[1,2,3,6],[],[],[(0,[(21,.sc (.k .b))])],[39]⟩)] [(18,⟨[3,6,8],[],[],[(0,[(9,.sc (.own 39 127 true))])],[39]⟩),(14,⟨[1,3,6,8,11],[],[],[(0,[(9,.sc (.own 39 127 true)),(10,.sc (.k .b))])],[39]⟩)] [(11,⟨[1,3,6,8],[],[(9,.sc (.own 39 127 true)),(10,.sc (.k .b)),(11,.sc (.k (.i .i64)))],[(2,[(9,.sc (.own 39 127 true)),(10,.sc (.k .b))])],[39]⟩)] [] Tryz.func127 (by kernel_rfl) (qG (λ_ _ _=>by kernel_rfl))
def BI (b id:MV):Option MV:=gA b λcs=>
 Hs cs λct L=>
 gI .i64 id λHv=>
 bd (yN (.agg [.i .i64 ct,.list L]) (.i .i64 Hv)) λrA=>
 gB rA λx=>
 aQ (!x) (
 some (.cj [.agg [.i .i64 ct,.list L],.i .i64 14])) (
 bd (Loop (λiT=>
 Gm iT λout i=>
 a7 L λlen=>
 aQ (decide (i<(len:Int))) (
 idx L i λy=>
 gA y λdP=>
 vT dP λId Span cF=>
 bd (
 aQ (decide (Id=Hv)) (
 some (0,[.i .i64 Id,.i .i64 Span,.i .i64 (c8 .i64 (ct+Span))])) (
 some (0,[.i .i64 Id,.i .i64 Span,.i .i64 cF]))) λp1=>
 bU (sh p1.1 0)<|
 aef .i64 .i64 .i64 p1.2 λx1 x2 x3=>
 a7 out λcW=>
 a7 ([.agg [.i .i64 x1,.i .i64 x2,.i .i64 x3]]:List MV) λdO=>
 bU (decide ((cW+dO) *24<=2^46))<|
 some (.inl [.list (out++([.agg [.i .i64 x1,.i .i64 x2,.i .i64 x3]]:List MV)),.i .i64 (c8 .i64 (i+1))])) (
 some (.inr (2,[.list out])))) [.list ([]:List MV),.i .i64 0]) λp=>
 bU (sh p.1 2)<|
 gC p.2 λN3 tY=>
 gL N3 λkR=>
 gN tY<|
 some (.cj [.agg [.i .i64 ct,.list kR],.i .i64 0]))
def MJ:GT:=bt 128 (dC BI) QN
theorem Lj:SG MJ:=sb Of [] [] 45 [39] [] [] [] [] [(9,⟨[1,2,4,6,7],[14],[],[(0,[(8,.box [.k (.i .i64),.k (.i .i64),.k (.i .i64)])])],[14]⟩)] [(5,⟨[1,2,4],[],[(6,.sc (.own 14 127 true)),(7,.sc (.k (.i .i64)))],[(2,[(6,.sc (.own 14 127 true))])],[14]⟩)] [] Tryz.func128 (by kernel_rfl) (bl (λ_ _=>by kernel_rfl))
def BJ (b id:MV):Option MV:=gA b λcs=>
 Hs cs λct L=>
 gI .i64 id λHv=>
 bd (yN (.agg [.i .i64 ct,.list L]) (.i .i64 Hv)) λrA=>
 gB rA λx=>
 aQ (!x) (
 some (.cj [.agg [.i .i64 ct,.list L],.i .i64 14])) (
 bd (Loop (λiT=>
 Gm iT λout i=>
 a7 L λlen=>
 aQ (decide (i<(len:Int))) (
 idx L i λy=>
 gA y λdP=>
 vT dP λId Span cF=>
 bd (
 aQ (!decide (Id=Hv)) (
 idx L i λy1=>
 gA y1 λlu=>
 vT lu λSa pT rS=>
 a7 out λcW=>
 a7 ([.agg [.i .i64 Sa,.i .i64 pT,.i .i64 rS]]:List MV) λdO=>
 bU (decide ((cW+dO) *24<=2^46))<|
 some (0,[.list (out++([.agg [.i .i64 Sa,.i .i64 pT,.i .i64 rS]]:List MV))])) (
 some (0,[.list out]))) λp1=>
 bU (sh p1.1 0)<|
 gC p1.2 λN3 tY=>
 gL N3 λkR=>
 gN tY<|
 some (.inl [.list kR,.i .i64 (c8 .i64 (i+1))])) (
 some (.inr (2,[.list out])))) [.list ([]:List MV),.i .i64 0]) λp=>
 bU (sh p.1 2)<|
 gC p.2 λKX rr=>
 gL KX λD7=>
 gN rr<|
 some (.cj [.agg [.i .i64 ct,.list D7],.i .i64 0]))
def MK:GT:=bt 129 (dC BJ) MJ
theorem Lk:SG MK:=sb Lj [] [] 41 [35] [] [] [] [] [(8,⟨[1,2,4,7],[],[],[(0,[(6,.sc (.own 13 127 true))])],[13]⟩)] [(5,⟨[1,2,4],[],[(6,.sc (.own 13 127 true)),(7,.sc (.k (.i .i64)))],[(2,[(6,.sc (.own 13 127 true))])],[13]⟩)] [] Tryz.func129 (by kernel_rfl) (bl (λ_ _=>by kernel_rfl))
def Eo (sA owner:MV):Option MV:=gA sA λcs=>
 gC cs λm fw=>
 gL m λL=>
 gN fw<|
 gI .i64 owner λyw=>
 bd (Loop (λek=>
 KY ek λlA gone i=>
 a7 L λlen=>
 aQ (decide (i<(len:Int))) (
 bd (
 aQ (decide ((0:Int)<yw)) (
 idx L i λy=>
 gA y λdP=>
 fa dP λPath Value Version bF=>
 some [.b (decide (bF=yw))]) (
 some [.b false])) λvs=>
 gC vs λm8 yo=>
 gB m8 λx=>
 gN yo<|
 bd (
 aQ x (
 idx L i λy1=>
 gA y1 λlu=>
 fa lu λdX cT bJ pu=>
 a7 gone λcW=>
 a7 ([.s dX]:List MV) λdO=>
 bU (decide ((cW+dO) *16<=2^46))<|
 some (0,[.list lA,.list (gone++([.s dX]:List MV))])) (
 idx L i λy2=>
 gA y2 λlZ=>
 fa lZ λtW ll ft Av=>
 a7 lA λjJ=>
 a7 ([.agg (fq tW ll ft Av)]:List MV) λlO=>
 bU (decide ((jJ+lO) *48<=2^46))<|
 some (0,[.list (lA++([.agg (fq tW ll ft Av)]:List MV)),.list gone]))) λp1=>
 bU (sh p1.1 0)<|
 Yp p1.2 λtX Jy=>
 some (.inl [.list tX,.list Jy,.i .i64 (c8 .i64 (i+1))])) (
 some (.inr (2,[.list lA,.list gone])))) [.list ([]:List MV),.list ([]:List MV),.i .i64 0]) λp=>
 bU (sh p.1 2)<|
 Yp p.2 λlA2 abj=>
 some (.cj [.agg [.list lA2],.list abj])
def QO:GT:=bt 191 (dC Eo) MK
theorem Og:SG QO:=sb Lk [] [] 50 [37,45] [] [] [] [(5,⟨[1,2,4,6,7,8],[9,10],[],[(0,[(29,.sc (.k .b))])],[9,10]⟩)] [(6,⟨[1,2,4,8],[],[],[(0,[(6,.sc (.own 9 124 true)),(7,.sc (.own 10 9 true))])],[9,10]⟩)] [(3,⟨[1,2,4],[],[(6,.sc (.own 9 124 true)),(7,.sc (.own 10 9 true)),(8,.sc (.k (.i .i64)))],[(2,[(6,.sc (.own 9 124 true)),(7,.sc (.own 10 9 true))])],[9,10]⟩)] [] Tryz.func191 (by kernel_rfl) (bl (λ_ _=>by kernel_rfl))
def xn (sA ids:MV):Option MV:=gA sA λcs=>
 gC cs λm fw=>
 gL m λL=>
 gN fw<|
 gL ids λamB=>
 bd (Loop (λek=>
 KY ek λkS out i=>
 a7 amB λlen=>
 aQ (decide (i<(len:Int))) (
 idx amB i λy=>
 gI .i64 y λx=>
 bd (Eo (.agg [.list kS]) (.i .i64 x)) λrA=>
 gT rA λvs=>
 gC vs λm4 lj=>
 gA m4 λdP=>
 gC dP λm5 ni=>
 gL m5 λL1=>
 gN ni<|
 gC lj λm6 lk=>
 gL m6 λx1=>
 gN lk<|
 bd (Loop (λml=>
 Gm ml λkR k=>
 a7 x1 λcW=>
 aQ (decide (k<(cW:Int))) (
 idx x1 k λy1=>
 gS y1 λx2=>
 a7 kR λdO=>
 a7 ([.agg [.i .i64 3,.s x2]]:List MV) λjJ=>
 bU (decide ((dO+jJ) *24<=2^46))<|
 some (.inl [.list (kR++([.agg [.i .i64 3,.s x2]]:List MV)),.i .i64 (c8 .i64 (k+1))])) (
 some (.inr (4,[.list kR])))) [.list out,.i .i64 0]) λp1=>
 bU (sh p1.1 4)<|
 gC p1.2 λm9 tY=>
 gL m9 λD7=>
 gN tY<|
 some (.inl [.list L1,.list D7,.i .i64 (c8 .i64 (i+1))])) (
 some (.inr (2,[.list kS,.list out])))) [.list L,.list ([]:List MV),.i .i64 0]) λp=>
 bU (sh p.1 2)<|
 Yp p.2 λsA2 Oa=>
 some (.cj [.agg [.list sA2],.list Oa])
def ML:GT:=bt 130 (dC xn) QO
theorem Ll:SG ML:=sb Og [] [] 44 [39] [] [] [(5,[0,1,2,3,4,5,6,7,8,9,10,11])] [] [] [(7,⟨[1,2,4,7,8,9],[],[(6,.sc (.own 11 155 true)),(10,.sc (.k (.i .i64)))],[(4,[(6,.sc (.own 11 155 true))])],[11]⟩),(3,⟨[1,4],[],[(2,.box [.k .l]),(6,.sc (.own 11 155 true)),(7,.sc (.k (.i .i64)))],[(2,[(2,.box [.k .l]),(6,.sc (.own 11 155 true))])],[11]⟩)] [] Tryz.func130 (by kernel_rfl) (bl (λ_ _=>by kernel_rfl))
def Ep (b now:MV):Option MV:=gA b λcs=>
 Hs cs λct L=>
 gI .i64 now λN9=>
 aQ (decide (N9<ct)) (
 some (.cj [.agg [.i .i64 ct,.list L],.list ([]:List MV),.i .i64 15])) (
 aQ (decide ((1000000000:Int)<N9)) (
 some (.cj [.agg [.i .i64 ct,.list L],.list ([]:List MV),.i .i64 5])) (
 bd (Loop (λiT=>
 KY iT λlA gone i=>
 a7 L λlen=>
 aQ (decide (i<(len:Int))) (
 idx L i λy=>
 gA y λdP=>
 vT dP λId Span cF=>
 bd (
 aQ (decide (cF<=N9)) (
 idx L i λy1=>
 gA y1 λlu=>
 vT lu λSa pT rS=>
 a7 gone λcW=>
 a7 ([.i .i64 Sa]:List MV) λdO=>
 bU (decide ((cW+dO) *8<=2^46))<|
 some (0,[.list lA,.list (gone++([.i .i64 Sa]:List MV))])) (
 idx L i λy2=>
 gA y2 λlZ=>
 vT lZ λId2 agH abk=>
 a7 lA λjJ=>
 a7 ([.agg [.i .i64 Id2,.i .i64 agH,.i .i64 abk]]:List MV) λlO=>
 bU (decide ((jJ+lO) *24<=2^46))<|
 some (0,[.list (lA++([.agg [.i .i64 Id2,.i .i64 agH,.i .i64 abk]]:List MV)),.list gone]))) λp1=>
 bU (sh p1.1 0)<|
 Yp p1.2 λtX Jy=>
 some (.inl [.list tX,.list Jy,.i .i64 (c8 .i64 (i+1))])) (
 some (.inr (2,[.list lA,.list gone])))) [.list ([]:List MV),.list ([]:List MV),.i .i64 0]) λp=>
 bU (sh p.1 2)<|
 Yp p.2 λlA2 abj=>
 some (.cj [.agg [.i .i64 N9,.list lA2],.list abj,.i .i64 0])))
def QP:GT:=bt 131 (dC Ep) ML
theorem Oh:SG QP:=sb Ll [] [] 56 [42,50] [] [] [] [] [(10,⟨[1,2,4,9],[],[],[(0,[(7,.sc (.own 18 127 true)),(8,.sc (.own 19 3 true))])],[18,19]⟩)] [(7,⟨[1,2,4],[],[(7,.sc (.own 18 127 true)),(8,.sc (.own 19 3 true)),(9,.sc (.k (.i .i64)))],[(2,[(7,.sc (.own 18 127 true)),(8,.sc (.own 19 3 true))])],[18,19]⟩)] [] Tryz.func131 (by kernel_rfl) (bl (λ_ _=>by kernel_rfl))
def Hy (t w:MV):Option MV:=gA t λcs=>
 gC cs λm fw=>
 gL m λL=>
 gN fw<|
 gA w λdP=>
 vS dP λPath Client Kids=>
 bd (kZ (.s Path)) λrA=>
 gB rA λx=>
 aQ (!x) (
 some (.cj [.agg [.list L],.i .i64 13])) (
 aQ (decide (Client<0)) (
 some (.cj [.agg [.list L],.i .i64 1])) (
 bd (D9 (.list L) (.agg [.s Path,.i .i64 Client,.b Kids])) λaT=>
 gB aT λx1=>
 aQ x1 (
 some (.cj [.agg [.list L],.i .i64 0])) (
 a7 L λlen=>
 aQ (decide ((200:Int)<=(len:Int))) (
 some (.cj [.agg [.list L],.i .i64 9])) (
 bU (qa 3 L)<|
 a7 ([]:List MV) λcW=>
 a7 L λdO=>
 bU (decide ((cW+dO) *32<=2^46))<|
 a7 (([]:List MV)++L) λjJ=>
 a7 ([.agg [.s Path,.i .i64 Client,.b Kids]]:List MV) λlO=>
 bU (decide ((jJ+lO) *32<=2^46))<|
 some (.cj [.agg [.list ((([]:List MV)++L)++([.agg [.s Path,.i .i64 Client,.b Kids]]:List MV))],.i .i64 0])))))
def VC:GT:=bt 132 (dC Hy) QP
theorem QQ:SG VC:=sb Oh [] [] 36 [32] [] [] [] [] [] [] [] Tryz.func132 (by kernel_rfl) (bl (λ_ _=>by kernel_rfl))
def Er (a a1:MV):Option MV:=gA a λcs=>
 fI cs λbW bN dg b7 Seen=>
 gA a1 λdP=>
 gU dP λClient Seq Kind Path Value Version Session Span=>
 bd (
 aQ (decide (Kind=1)) (
 some (0,[.b (decide (Kind=1))])) (
 bd (
 aQ (decide (Kind=2)) (
 some (0,[.b (decide (Kind=2))])) (
 bd (
 aQ (decide (Kind=3)) (
 some (0,[.b (decide (Kind=3))])) (
 bd (
 aQ (decide (Kind=4)) (
 some (0,[.b (decide (Kind=4))])) (
 some (0,[.b (decide (Kind=5))]))) λp3=>
 bU (sh p3.1 0)<|
 gC p3.2 λTt tZ=>
 gB Tt λx=>
 gN tZ<|
 some (0,[.b x]))) λp2=>
 bU (sh p2.1 0)<|
 gC p2.2 λm14 Jt=>
 gB m14 λx1=>
 gN Jt<|
 some (0,[.b x1]))) λp1=>
 bU (sh p1.1 0)<|
 gC p1.2 λm15 Eb=>
 gB m15 λx2=>
 gN Eb<|
 some (0,[.b x2]))) λp=>
 bU (sh p.1 0)<|
 gC p.2 λm16 I4=>
 gB m16 λx3=>
 gN I4<|
 aQ x3 (
 bd (vu (.agg (cD bW bN dg b7 Seen)) (.agg (dB Client Seq Kind Path Value Version Session Span))) λrA=>
 gT rA λvs=>
 gC vs λTu At=>
 gA Tu λlu=>
 fI lu λmV kX rY nW AK=>
 gC At λN8 pv=>
 gA N8 λlZ=>
 cv lZ λck mO E cT bJ Names=>
 gC pv λm30 QR=>
 gL m30 λx4=>
 gN QR<|
 some (.cj [.agg (cD mV kX rY nW AK),.agg (bR ck mO E cT bJ Names),.list x4])) (
 bd (
 aQ (decide (Kind=6)) (
 bd (En (.agg [.i .i64 bN,.list dg]) (.i .i64 Session) (.i .i64 Span)) λaT=>
 gT aT λiM=>
 gC iM λm31 QF=>
 gA m31 λKZ=>
 Hs KZ λct L=>
 gC QF λm34 JQ=>
 gI .i64 m34 λx5=>
 gN JQ<|
 some (0,(fc bW ct L b7 Seen 0 0 x5 ([]:List UInt8) 0 ([]:List MV) ([]:List MV)))) (
 bd (
 aQ (decide (Kind=7)) (
 bd (BI (.agg [.i .i64 bN,.list dg]) (.i .i64 Session)) λca=>
 gT ca λoO=>
 gC oO λm35 QG=>
 gA m35 λTv=>
 Hs Tv λaiO L1=>
 gC QG λm38 DX=>
 gI .i64 m38 λx6=>
 gN DX<|
 some (0,(fc bW aiO L1 b7 Seen 0 0 x6 ([]:List UInt8) 0 ([]:List MV) ([]:List MV)))) (
 bd (
 aQ (decide (Kind=8)) (
 bd (BJ (.agg [.i .i64 bN,.list dg]) (.i .i64 Session)) λgO=>
 gT gO λTx=>
 gC Tx λm39 Je=>
 gA m39 λcs6=>
 Hs cs6 λamC L2=>
 gC Je λm42 QA=>
 gI .i64 m42 λx7=>
 gN QA<|
 bd (
 aQ (decide (x7=0)) (
 bd (xn (.agg [.list bW]) (.list ([.i .i64 Session]:List MV))) λoP=>
 gT oP λvs4=>
 gC vs4 λm43 Ji=>
 gA m43 λcs7=>
 gC cs7 λm44 aa7=>
 gL m44 λL3=>
 gN aa7<|
 gC Ji λm45 aa8=>
 gL m45 λx8=>
 gN aa8<|
 some (0,[.list L3,.i .i64 amC,.list L2,.list b7,.list Seen,.list x8])) (
 some (0,[.list bW,.i .i64 amC,.list L2,.list b7,.list Seen,.list ([]:List MV)]))) λp7=>
 bU (sh p7.1 0)<|
 gC p7.2 λm46 Qx=>
 gL m46 λx9=>
 gC Qx λm47 aa9=>
 gI .i64 m47 λpq=>
 gC aa9 λm48 Qy=>
 gL m48 λrn=>
 gC Qy λm49 abi=>
 gL m49 λzK=>
 Yp abi λzw DW=>
 some (0,(fc x9 pq rn zK zw 0 0 x7 ([]:List UInt8) 0 ([]:List MV) DW))) (
 bd (
 aQ (decide (Kind=9)) (
 bd (Ep (.agg [.i .i64 bN,.list dg]) (.i .i64 Span)) λrR=>
 gT rR λvs5=>
 gC vs5 λm52 Qm=>
 gA m52 λcs8=>
 Hs cs8 λaiR L4=>
 Gm Qm λCU EU=>
 bd (
 aQ (decide (EU=0)) (
 bd (xn (.agg [.list bW]) (.list CU)) λzg=>
 gT zg λvs6=>
 gC vs6 λm57 aba=>
 gA m57 λcs9=>
 gC cs9 λm58 abb=>
 gL m58 λL5=>
 gN abb<|
 gC aba λm59 Qz=>
 gL m59 λFt=>
 gN Qz<|
 some (0,(fc L5 aiR L4 b7 Seen 0 0 EU ([]:List UInt8) aiR ([]:List MV) Ft))) (
 some (0,(fc bW aiR L4 b7 Seen 0 0 EU ([]:List UInt8) 0 ([]:List MV) ([]:List MV))))) λp9=>
 bU (sh p9.1 0)<|
 kY .i64 .i64 .i64 .i64 .i64 p9.2 λFu GV O7 Sb Yr x23 x24 x25 x26 x27 x28 x29=>
 some (0,(fc Fu GV O7 Sb Yr x23 x24 x25 x26 x27 x28 x29))) (
 bd (
 aQ (decide (Kind=10)) (
 some (0,[.b (decide (Kind=10))])) (
 some (0,[.b (decide (Kind=11))]))) λp10=>
 bU (sh p10.1 0)<|
 gC p10.2 λm72 amD=>
 gB m72 λx30=>
 gN amD<|
 bd (
 aQ x30 (
 bd (Hy (.agg [.list b7]) (.agg [.s Path,.i .i64 Client,.b (decide (Kind=11))])) λHq=>
 gT Hq λvs7=>
 gC vs7 λm73 amE=>
 gA m73 λaiS=>
 gC aiS λm74 amF=>
 gL m74 λL6=>
 gN amF<|
 gC amE λm75 amG=>
 gI .i64 m75 λx31=>
 gN amG<|
 some (0,[.list bW,.i .i64 bN,.list dg,.list L6,.list Seen,.i .i64 0,.i .i64 0,.i .i64 x31,.s ([]:List UInt8),.i .i64 0,.list ([]:List MV)])) (
 some (0,[.list bW,.i .i64 bN,.list dg,.list b7,.list Seen,.i .i64 0,.i .i64 0,.i .i64 0,.s ([]:List UInt8),.i .i64 0,.list ([]:List MV)]))) λp11=>
 bU (sh p11.1 0)<|
 gC p11.2 λm76 abl=>
 gL m76 λx32=>
 gC abl λm77 amH=>
 gI .i64 m77 λx33=>
 gC amH λm78 amI=>
 gL m78 λx34=>
 gC amI λm79 amJ=>
 gL m79 λx35=>
 gC amJ λm80 amK=>
 gL m80 λx36=>
 cv amK λx37 x38 x39 x40 x41 x42=>
 some (0,(fc x32 x33 x34 x35 x36 x37 x38 x39 x40 x41 x42 ([]:List MV))))) λp8=>
 bU (sh p8.1 0)<|
 kY .i64 .i64 .i64 .i64 .i64 p8.2 λx43 x44 x45 x46 x47 x48 x49 x50 x51 x52 x53 x54=>
 some (0,(fc x43 x44 x45 x46 x47 x48 x49 x50 x51 x52 x53 x54)))) λp6=>
 bU (sh p6.1 0)<|
 kY .i64 .i64 .i64 .i64 .i64 p6.2 λx55 x56 x57 x58 x59 x60 x61 x62 x63 x64 x65 x66=>
 some (0,(fc x55 x56 x57 x58 x59 x60 x61 x62 x63 x64 x65 x66)))) λp5=>
 bU (sh p5.1 0)<|
 kY .i64 .i64 .i64 .i64 .i64 p5.2 λx67 x68 x69 x70 x71 x72 x73 x74 x75 x76 x77 x78=>
 some (0,(fc x67 x68 x69 x70 x71 x72 x73 x74 x75 x76 x77 x78)))) λp4=>
 bU (sh p4.1 0)<|
 kY .i64 .i64 .i64 .i64 .i64 p4.2 λx79 x80 x81 x82 x83 x84 x85 x86 x87 x88 x89 x90=>
 some (.cj [.agg (cD x79 x80 x81 x82 x83),.agg (bR x84 x85 x86 x87 x88 x89),.list x90]))
def QS:GT:=bt 66 (dC Er) VC
theorem Oi:SG QS:=sb QQ [] [] 153 [25,92] [151] [(40,[7])] [(40,[0,1,2,3,4,5])] [] [(23,⟨[3,4,5,7],[],[],[(0,[(2,.box [.k .l,.k (.i .i64),.k .l,.k .l,.k .l]),(8,.sc (.k .l))])],[]⟩),(31,⟨[4,5,17,18],[],[],[(0,[(2,.box [.k .l,.k (.i .i64),.k .l,.k .l,.k .l]),(7,.box [.k (.i .i64),.k (.i .i64),.k (.i .i64),.k .s,.k (.i .i64),.k .l]),(8,.sc (.k .l))])],[]⟩),(37,⟨[3,4,5,8],[],[],[(0,[(2,.box [.k .l,.k (.i .i64),.k .l,.k .l,.k .l]),(7,.box [.k (.i .i64),.k (.i .i64),.k (.i .i64),.k .s,.k (.i .i64),.k .l])])],[]⟩),(36,⟨[2,3,4,5,7,8,27],[],[],[(0,[(129,.sc (.k .b))])],[]⟩),(27,⟨[3,4,5,27],[],[],[(0,[(2,.box [.k .l,.k (.i .i64),.k .l,.k .l,.k .l]),(7,.box [.k (.i .i64),.k (.i .i64),.k (.i .i64),.k .s,.k (.i .i64),.k .l]),(8,.sc (.k .l))])],[]⟩),(19,⟨[3,4,5,27],[],[],[(0,[(2,.box [.k .l,.k (.i .i64),.k .l,.k .l,.k .l]),(7,.box [.k (.i .i64),.k (.i .i64),.k (.i .i64),.k .s,.k (.i .i64),.k .l]),(8,.sc (.k .l))])],[]⟩),(15,⟨[3,4,5,27],[],[],[(0,[(2,.box [.k .l,.k (.i .i64),.k .l,.k .l,.k .l]),(7,.box [.k (.i .i64),.k (.i .i64),.k (.i .i64),.k .s,.k (.i .i64),.k .l]),(8,.sc (.k .l))])],[]⟩),(11,⟨[3,4,5,27],[],[],[(0,[(2,.box [.k .l,.k (.i .i64),.k .l,.k .l,.k .l]),(7,.box [.k (.i .i64),.k (.i .i64),.k (.i .i64),.k .s,.k (.i .i64),.k .l]),(8,.sc (.k .l))])],[]⟩),(8,⟨[2,3,4,5,7,8,27],[],[],[(0,[(28,.sc (.k .b))])],[]⟩),(7,⟨[2,3,4,5,7,8,27],[],[],[(0,[(28,.sc (.k .b))])],[]⟩),(6,⟨[2,3,4,5,7,8,27],[],[],[(0,[(28,.sc (.k .b))])],[]⟩),(5,⟨[2,3,4,5,7,8,27],[],[],[(0,[(28,.sc (.k .b))])],[]⟩)] [] [] Tryz.func66 (by kernel_rfl) (bl (λ_ _=>by kernel_rfl))
def vv (c w:MV):Option MV:=gA c λcs=>
 gC cs λm fw=>
 gI .i64 m λKind=>
 gC fw λm1 ek=>
 gS m1 λPath=>
 gN ek<|
 gA w λdP=>
 vS dP λdX Client Kids=>
 bd (
 aQ (decide (Kind<1)) (
 some [.b true]) (
 aQ (decide ((3:Int)<Kind)) (
 some [.b true]) (
 bd (kZ (.s Path)) λrA=>
 gB rA λx=>
 some [.b (!x)]))) λvs=>
 gC vs λm5 lj=>
 gB m5 λx1=>
 gN lj<|
 aQ x1 (
 some (.b false)) (
 aQ (!Kids) (
 some (.b (decide (Path=dX)))) (
 bd (n9 (.s Path)) λaT=>
 gT aT λiM=>
 jSI iM λx2 x3=>
 bd (
 aQ (!decide (Kind=2)) (
 aQ (decide (x3=0)) (
 some [.b (decide (x2=dX))]) (
 some [.b false])) (
 some [.b false])) λoO=>
 gC oO λm8 ml=>
 gB m8 λx4=>
 gN ml<|
 some (.b x4)))
def Gy:GT:=bt 133 (dC vv) QS
theorem G7:SG Gy:=kQ Oi [] 48 [(6,⟨[2,3,5,6],[],[],[(0,[(4,.sc (.k .b))])],[]⟩),(1,⟨[2,3],[],[],[(0,[(20,.sc (.k .b))])],[]⟩)] [] [] Tryz.func133 (by kernel_rfl) (bl (λ_ _=>by kernel_rfl))
def Es (t lA:MV):Option MV:=gA t λcs=>
 gC cs λm fw=>
 gL m λL=>
 gN fw<|
 gL lA λtX=>
 bU (qa 3 L)<|
 a7 ([]:List MV) λlen=>
 a7 L λcW=>
 bU (decide ((len+cW) *32<=2^46))<|
 bd (Loop (λek=>
 KY ek λleft out i=>
 a7 tX λdO=>
 aQ (decide (i<(dO:Int))) (
 bd (Loop (λlj=>
 KY lj λkR stay k=>
 a7 left λjJ=>
 aQ (decide (k<(jJ:Int))) (
 idx tX i λy=>
 gA y λdP=>
 gC dP λm7 yo=>
 gI .i64 m7 λKind=>
 gC yo λm8 nz=>
 gS m8 λPath=>
 gN nz<|
 idx left k λy1=>
 gA y1 λlu=>
 vS lu λdX Client Kids=>
 bd (vv (.agg [.i .i64 Kind,.s Path]) (.agg [.s dX,.i .i64 Client,.b Kids])) λrA=>
 gB rA λx=>
 bd (
 aQ x (
 idx left k λy2=>
 gA y2 λlZ=>
 vS lZ λtW ck Ea=>
 idx tX i λy3=>
 gA y3 λKZ=>
 gC KZ λm15 At=>
 gI .i64 m15 λI8=>
 gC At λm16 tV=>
 gS m16 λVx=>
 gN tV<|
 a7 kR λlO=>
 a7 ([.agg [.s tW,.i .i64 ck,.b Ea,.i .i64 I8,.s Vx]]:List MV) λym=>
 bU (decide ((lO+ym) *56<=2^46))<|
 some (0,[.list (kR++([.agg [.s tW,.i .i64 ck,.b Ea,.i .i64 I8,.s Vx]]:List MV)),.list stay])) (
 idx left k λy4=>
 gA y4 λTv=>
 vS Tv λagI nQ Vw=>
 a7 stay λAu=>
 a7 ([.agg [.s agI,.i .i64 nQ,.b Vw]]:List MV) λI5=>
 bU (decide ((Au+I5) *32<=2^46))<|
 some (0,[.list kR,.list (stay++([.agg [.s agI,.i .i64 nQ,.b Vw]]:List MV))]))) λp2=>
 bU (sh p2.1 0)<|
 Yp p2.2 λD7 amL=>
 some (.inl [.list D7,.list amL,.i .i64 (c8 .i64 (k+1))])) (
 some (.inr (4,[.list kR,.list stay])))) [.list out,.list ([]:List MV),.i .i64 0]) λp1=>
 bU (sh p1.1 4)<|
 Yp p1.2 λOa amM=>
 some (.inl [.list amM,.list Oa,.i .i64 (c8 .i64 (i+1))])) (
 some (.inr (2,[.list left,.list out])))) [.list (([]:List MV)++L),.list ([]:List MV),.i .i64 0]) λp=>
 bU (sh p.1 2)<|
 Yp p.2 λabd aiT=>
 some (.cj [.agg [.list abd],.list aiT])
def QT:GT:=bt 67 (dC Es) Gy
theorem Oj:SG QT:=sb G7 [] [] 61 [48,55] [] [] [(10,[0,1,2,3,4,5,6,7,8]),(11,[0,1,2,3,4,5,6,7,8,9,10,11,12])] [] [(11,⟨[1,4,6,8,10],[11],[],[(0,[(7,.sc (.own 15 157 true)),(9,.sc (.own 22 128 true))])],[11,15,22]⟩)] [(8,⟨[1,4,6,8],[11],[(7,.sc (.own 15 157 true)),(9,.sc (.own 22 128 true)),(10,.sc (.k (.i .i64)))],[(4,[(7,.sc (.own 15 157 true)),(9,.sc (.own 22 128 true))])],[11,15,22]⟩),(4,⟨[1,4],[],[(6,.sc (.own 11 128 true)),(7,.sc (.own 15 157 true)),(8,.sc (.k (.i .i64)))],[(2,[(6,.sc (.own 11 128 true)),(7,.sc (.own 15 157 true))])],[11,15,22]⟩)] [] Tryz.func67 (by kernel_rfl) (bl (λ_ _=>by kernel_rfl))
def Et (lA x:MV):Option MV:=gL lA λtX=>
 gA x λcs=>
 cv cs λClient Seq E Value Version Names=>
 bd (Loop (λni=>
 gC ni λm6 lk=>
 gL m6 λout=>
 gC lk λm7 ml=>
 gB m7 λinA=>
 gC ml λm8 yo=>
 gI .i64 m8 λi=>
 gN yo<|
 a7 tX λlen=>
 aQ (decide (i<(len:Int))) (
 bd (
 aQ (!inA) (
 idx tX i λy=>
 gA y λdP=>
 cv dP λck mO E1 cT bJ iS=>
 some [.b (decide (Client<=ck))]) (
 some [.b false])) λvs=>
 gC vs λm15 I4=>
 gB m15 λx1=>
 gN I4<|
 bd (
 aQ x1 (
 a7 out λcW=>
 a7 ([.agg (bR Client Seq E Value Version Names)]:List MV) λdO=>
 bU (decide ((cW+dO) *72<=2^46))<|
 some (0,[.list (out++([.agg (bR Client Seq E Value Version Names)]:List MV)),.b true])) (
 some (0,[.list out,.b inA]))) λp1=>
 bU (sh p1.1 0)<|
 O6 p1.2 λkR aqt=>
 idx tX i λy1=>
 gA y1 λlu=>
 cv lu λnQ Tw E2 ll ft I7=>
 bd (
 aQ (!decide (nQ=Client)) (
 idx tX i λy2=>
 gA y2 λlZ=>
 cv lZ λDY aaZ E3 CV xd N5=>
 a7 kR λjJ=>
 a7 ([.agg (bR DY aaZ E3 CV xd N5)]:List MV) λlO=>
 bU (decide ((jJ+lO) *72<=2^46))<|
 some (0,[.list (kR++([.agg (bR DY aaZ E3 CV xd N5)]:List MV))])) (
 some (0,[.list kR]))) λp2=>
 bU (sh p2.1 0)<|
 gC p2.2 λm30 QF=>
 gL m30 λD7=>
 gN QF<|
 some (.inl [.list D7,.b aqt,.i .i64 (c8 .i64 (i+1))])) (
 some (.inr (2,[.list out,.b inA])))) [.list ([]:List MV),.b false,.i .i64 0]) λp=>
 bU (sh p.1 2)<|
 O6 p.2 λOa aqu=>
 bd (
 aQ (!aqu) (
 a7 Oa λym=>
 a7 ([.agg (bR Client Seq E Value Version Names)]:List MV) λAu=>
 bU (decide ((ym+Au) *72<=2^46))<|
 some (0,[.list (Oa++([.agg (bR Client Seq E Value Version Names)]:List MV))])) (
 some (0,[.list Oa]))) λp3=>
 bU (sh p3.1 0)<|
 gC p3.2 λm33 JQ=>
 gL m33 λaiT=>
 gN JQ<|
 some (.list aiT)
def QU:GT:=bt 68 (dC Et) QT
theorem Ok:SG QU:=sb Oj [] [] 53 [29,44,50] [] [] [(6,[0,1,2,3,4,5,6,7,8,9,10,11]),(9,[0,1,2,3,4,5,6,7])] [(6,⟨[0,3,5,6,7],[8],[],[(0,[(26,.sc (.k .b))])],[8]⟩)] [(12,⟨[3],[],[],[(0,[(5,.sc (.own 8 61 true))])],[8]⟩),(10,⟨[0,3,6,7],[],[],[(0,[(5,.sc (.own 8 61 true))])],[8]⟩),(7,⟨[0,3,7],[],[],[(0,[(5,.sc (.own 8 61 true)),(6,.sc (.k .b))])],[8]⟩)] [(4,⟨[0,3],[],[(5,.sc (.own 8 61 true)),(6,.sc (.k .b)),(7,.sc (.k (.i .i64)))],[(2,[(5,.sc (.own 8 61 true)),(6,.sc (.k .b))])],[8]⟩)] [] Tryz.func68 (by kernel_rfl) (bl (λ_ _=>by kernel_rfl))
def BK (a a1:MV):Option MV:=gA a λcs=>
 fI cs λbW bN dg b7 Seen=>
 gA a1 λdP=>
 gU dP λClient Seq Kind Path Value Version Session Span=>
 bd (Hw (.agg (dB Client Seq Kind Path Value Version Session Span))) λrA=>
 gB rA λx=>
 aQ (!x) (
 both (
 some (.cj [.agg (cD bW bN dg b7 Seen),.agg (bR Client Seq 1 ([]:List UInt8) 0 ([]:List MV)),.list ([]:List MV)])) (
 some (.cj [.agg (cD bW bN dg b7 Seen),.agg (bR Client Seq 1 ([]:List UInt8) 0 ([]:List MV)),.list ([]:List MV)]))) (
 bd (El (.agg (cD bW bN dg b7 Seen)) (.i .i64 Client)) λaT=>
 gT aT λvs=>
 gC vs λTt tZ=>
 gA Tt λlu=>
 cv lu λck mO E cT bJ Names=>
 gC tZ λB5 ik=>
 gB B5 λx1=>
 gN ik<|
 bd (
 aQ x1 (
 some [.b (decide (mO=Seq))]) (
 some [.b false])) λiM=>
 gC iM λQs pw=>
 gB Qs λx2=>
 gN pw<|
 aQ x2 (
 some (.cj [.agg (cD bW bN dg b7 Seen),.agg (bR ck mO E cT bJ Names),.list ([]:List MV)])) (
 bd (
 aQ x1 (
 some [.b (decide (Seq<mO))]) (
 some [.b false])) λoO=>
 gC oO λTz rq=>
 gB Tz λx3=>
 gN rq<|
 aQ x3 (
 both (
 some (.cj [.agg (cD bW bN dg b7 Seen),.agg (bR Client Seq 15 ([]:List UInt8) 0 ([]:List MV)),.list ([]:List MV)])) (
 some (.cj [.agg (cD bW bN dg b7 Seen),.agg (bR Client Seq 15 ([]:List UInt8) 0 ([]:List MV)),.list ([]:List MV)]))) (
 bd (
 aQ (!x1) (
 a7 Seen λlen=>
 some [.b (decide ((50:Int)<=(len:Int)))]) (
 some [.b false])) λTx=>
 gC Tx λN8 pv=>
 gB N8 λx4=>
 gN pv<|
 aQ x4 (
 some (.cj [.agg (cD bW bN dg b7 Seen),.agg (bR Client Seq 9 ([]:List UInt8) 0 ([]:List MV)),.list ([]:List MV)])) (
 bd (Er (.agg (cD bW bN dg b7 Seen)) (.agg (dB Client Seq Kind Path Value Version Session Span))) λca=>
 gT ca λvs4=>
 gC vs4 λm24 Ax=>
 gA m24 λlZ=>
 fI lZ λmV kX rY nW AK=>
 gC Ax λm30 QR=>
 gA m30 λKZ=>
 cv KZ λnQ Tw E1 ll ft iS=>
 gC QR λm37 xe=>
 gL m37 λx5=>
 gN xe<|
 bd (Es (.agg [.list nW]) (.list x5)) λgO=>
 gT gO λvs5=>
 gC vs5 λm38 DX=>
 gA m38 λTv=>
 gC Tv λm39 Je=>
 gL m39 λL=>
 gN Je<|
 gC DX λm40 Qw=>
 gL m40 λx6=>
 gN Qw<|
 bd (Et (.list Seen) (.agg (bR Client Seq E1 ll ft iS))) λoP=>
 gL oP λx7=>
 some (.cj [.agg (cD mV kX rY L x7),.agg (bR Client Seq E1 ll ft iS),.list x6])))))
def MM:GT:=bt 19 (dC BK) QU
theorem Lm:SG MM:=sb Ok [] [] 95 [] [42,64,93] [(6,[8]),(13,[7]),(14,[7]),(17,[11])] [(4,[0,2,1,3,4,0,1,2,3,4,2,1]),(7,[0,1,2,3,4]),(10,[0,2,1,3,4,0,1,2,3,4,2,1]),(13,[0,1,2,3,4]),(20,[0,1,2,3,4,5])] [(11,⟨[2,3,4,5,7,9],[],[],[(0,[(61,.sc (.k .b))])],[]⟩),(8,⟨[2,3,4,5,7,8,9],[],[],[(0,[(50,.sc (.k .b))])],[]⟩),(6,⟨[2,3,4,5,7,8,9],[],[],[(0,[(40,.sc (.k .b))])],[]⟩)] [] [] [] Tryz.func19 (by kernel_rfl) (bl (λ_ _=>by kernel_rfl))
def Hz (o:MV):Option MV:=gA o λcs=>
 gU cs λClient Seq Kind Path Value Version Session Span=>
 some (.agg (dB Client Seq Kind Path Value Version Session Span))
def VD:GT:=bt 20 (mb Hz) MM
theorem QV:SG VD:=kQ Lm [] 20 [] [] [] Tryz.func20 (by kernel_rfl) (dp (λ_=>by kernel_rfl))
def Eu (n:MV):Option MV:=gI .u64 n λn1=>
 bd (Loop (λfw=>
 oII .u64 .i64 fw λn2 k=>
 aQ (decide ((0:Int)<n2)) (
 bU (!decide ((256:Int)=0))<|
 some (.inl [.i .u64 (c8 .u64 (Int.tdiv n2 256)),.i .i64 (c8 .i64 (k+1))])) (
 some (.inr (2,[.i .i64 k])))) [.i .u64 n1,.i .i64 1]) λp=>
 bU (sh p.1 2)<|
 gC p.2 λm2 mn=>
 gI .i64 m2 λk1=>
 gN mn<|
 some (.i .i64 k1)
def QW:GT:=bt 154 (mb Eu) VD
theorem Ol:SG QW:=kQ QV [] 11 [] [] [(2,⟨[],[],[(0,.sc (.k (.i .u64))),(3,.sc (.k (.i .i64)))],[(2,[(3,.sc (.k (.i .i64)))])],[]⟩)] Tryz.func154 (by kernel_rfl) (dp (λ_=>by kernel_rfl))
def yQ (b n:MV):Option MV:=gL b λb1=>
 gI .u64 n λn1=>
 bU (qa 1 b1)<|
 a7 ([]:List MV) λlen=>
 a7 b1 λcW=>
 bU (decide ((len+cW) *1<=2^46))<|
 bd (Eu (.i .u64 n1)) λrA=>
 gI .i64 rA λx=>
 a7 (([]:List MV)++b1) λdO=>
 a7 ([.i .u8 (c8 .u8 (c8 .i64 (x-1)))]:List MV) λjJ=>
 bU (decide ((dO+jJ) *1<=2^46))<|
 bd (Loop (λfw=>
 Gm fw λout i=>
 aQ (decide ((0:Int)<=i)) (
 bd (Loop (λmn=>
 oII .u64 .i64 mn λx1 j=>
 aQ (decide (j<i)) (
 bU (!decide ((256:Int)=0))<|
 some (.inl [.i .u64 (c8 .u64 (Int.tdiv x1 256)),.i .i64 (c8 .i64 (j+1))])) (
 some (.inr (4,[.i .u64 x1])))) [.i .u64 n1,.i .i64 0]) λp1=>
 bU (sh p1.1 4)<|
 gC p1.2 λm4 ni=>
 gI .u64 m4 λx2=>
 gN ni<|
 bU (!decide ((256:Int)=0))<|
 a7 out λlO=>
 a7 ([.i .u8 (c8 .u8 (Int.tmod x2 256))]:List MV) λym=>
 bU (decide ((lO+ym) *1<=2^46))<|
 some (.inl [.list (out++([.i .u8 (c8 .u8 (Int.tmod x2 256))]:List MV)),.i .i64 (c8 .i64 (i-1))])) (
 some (.inr (2,[.list out])))) [.list ((([]:List MV)++b1)++([.i .u8 (c8 .u8 (c8 .i64 (x-1)))]:List MV)),.i .i64 (c8 .i64 ((c8 .i64 (x-1))-1))]) λp=>
 bU (sh p.1 2)<|
 gC p.2 λm5 lk=>
 gL m5 λkR=>
 gN lk<|
 some (.fresh kR)
def VE:GT:=bt 92 (dC yQ) QW
theorem QX:SG VE:=fnF Ol 5 [] [] 42 [19,39] [] [] [] [] [] [(9,⟨[1,5,7],[10],[(8,.sc (.k (.i .u64))),(9,.sc (.k (.i .i64)))],[(4,[(8,.sc (.k (.i .u64)))])],[]⟩),(5,⟨[1],[],[(5,.sc (.own 10 5 false)),(7,.sc (.k (.i .i64)))],[(2,[(5,.sc (.own 10 5 false))])],[]⟩)] [] Tryz.func92 (by kernel_rfl) (by kernel_rfl) (bl (λ_ _=>by kernel_rfl))
def jB (b n:MV):Option MV:=gL b λb1=>
 gI .i64 n λn1=>
 aQ (decide (n1<0)) (
 bd (yQ (.list b1) (.i .u64 (c8 .u64 ((c8 .u64 (2 *(c8 .u64 (c8 .i64 (0-(c8 .i64 (n1+1)))))))+1)))) λrA=>
 gF rA λxs=>
 some (.fresh xs)) (
 bd (yQ (.list b1) (.i .u64 (c8 .u64 (2 *(c8 .u64 n1))))) λaT=>
 gF aT λzL=>
 some (.fresh zL))
def VF:GT:=bt 134 (dC jB) VE
theorem QY:SG VF:=fnF QX 5 [] [] 20 [] [] [] [] [] [] [] [] Tryz.func134 (by kernel_rfl) (by kernel_rfl) (bl (λ_ _=>by kernel_rfl))
def rF (b sA:MV):Option MV:=gL b λb1=>
 gS sA λkS=>
 bd (yQ (.list b1) (.i .u64 (c8 .u64 (kS.length:Int)))) λrA=>
 gF rA λxs=>
 a7 xs λlen=>
 a7 (Pb kS) λcW=>
 bU (decide ((len+cW) *1<=2^46))<|
 some (.fresh (xs++(Pb kS)))
def QZ:GT:=bt 135 (dC rF) VF
theorem Om:SG QZ:=fnF QY 5 [] [] 14 [] [] [] [] [] [] [] [] Tryz.func135 (by kernel_rfl) (by kernel_rfl) (bl (λ_ _=>by kernel_rfl))
def Ew (b lA:MV):Option MV:=gL b λb1=>
 gL lA λtX=>
 a7 tX λlen=>
 bd (yQ (.list b1) (.i .u64 (c8 .u64 (len:Int)))) λrA=>
 gF rA λxs=>
 bd (Loop (λfw=>
 Gm fw λout i=>
 a7 tX λcW=>
 aQ (decide (i<(cW:Int))) (
 idx tX i λy=>
 gS y λx=>
 bd (rF (.list out) (.s x)) λaT=>
 gF aT λzL=>
 some (.inl [.list zL,.i .i64 (c8 .i64 (i+1))])) (
 some (.inr (2,[.list out])))) [.list xs,.i .i64 0]) λp=>
 bU (sh p.1 2)<|
 gC p.2 λm2 mn=>
 gL m2 λkR=>
 gN mn<|
 some (.fresh kR)
def Q0:GT:=bt 192 (dC Ew) QZ
theorem On:SG Q0:=fnF Om 5 [] [] 25 [] [] [] [] [] [] [(3,⟨[1],[],[(5,.sc (.own 11 5 false)),(6,.sc (.k (.i .i64)))],[(2,[(5,.sc (.own 11 5 false))])],[]⟩)] [] Tryz.func192 (by kernel_rfl) (by kernel_rfl) (bl (λ_ _=>by kernel_rfl))
def sO (b rA:MV):Option MV:=gL b λb1=>
 gA rA λcs=>
 cv cs λClient Seq E Value Version Names=>
 bd (Loop (λni=>
 Gm ni λb2 i=>
 a7 ([.i .i64 Client,.i .i64 Seq,.i .i64 E,.i .i64 Version]:List MV) λlen=>
 aQ (decide (i<(len:Int))) (
 idx ([.i .i64 Client,.i .i64 Seq,.i .i64 E,.i .i64 Version]:List MV) i λy=>
 gI .i64 y λx=>
 bd (jB (.list b2) (.i .i64 x)) λaT=>
 gF aT λxs=>
 some (.inl [.list xs,.i .i64 (c8 .i64 (i+1))])) (
 some (.inr (2,[.list b2])))) [.list b1,.i .i64 0]) λp=>
 bU (sh p.1 2)<|
 gC p.2 λm8 yo=>
 gL m8 λb3=>
 gN yo<|
 bd (rF (.list b3) (.s Value)) λca=>
 gF ca λzL=>
 bd (Ew (.list zL) (.list Names)) λgO=>
 gF gO λJd=>
 some (.list Jd)
def Ex:GT:=bt 136 (dC sO) Q0
theorem FA:SG Ex:=sb On [] [] 36 [27,31] [] [] [] [] [] [(3,⟨[3,5],[15],[(0,.sc (.k .l)),(6,.sc (.k (.i .i64)))],[(2,[(0,.sc (.k .l))])],[15,35]⟩)] [] Tryz.func136 (by kernel_rfl) (bl (λ_ _=>by kernel_rfl))
def AN (a:MV):Option MV:=gA a λcs=>
 fI cs λbW bN dg b7 Seen=>
 a7 bW λlen=>
 bd (jB (.list ([]:List MV)) (.i .i64 (len:Int))) λrA=>
 gF rA λxs=>
 bd (Loop (λlj=>
 Gm lj λx x1=>
 a7 bW λcW=>
 aQ (decide (x1<(cW:Int))) (
 idx bW x1 λy=>
 gA y λdP=>
 fa dP λPath Value Version bF=>
 bd (rF (.list x) (.s Path)) λaT=>
 gF aT λzL=>
 bd (rF (.list zL) (.s Value)) λca=>
 gF ca λJd=>
 bd (jB (.list Jd) (.i .i64 Version)) λgO=>
 gF gO λYq=>
 bd (jB (.list Yq) (.i .i64 bF)) λoP=>
 gF oP λxs4=>
 some (.inl [.list xs4,.i .i64 (c8 .i64 (x1+1))])) (
 some (.inr (2,[.list x])))) [.list xs,.i .i64 0]) λp=>
 bU (sh p.1 2)<|
 gC p.2 λKX rr=>
 gL KX λx2=>
 gN rr<|
 bd (jB (.list x2) (.i .i64 bN)) λrR=>
 gF rR λxs5=>
 a7 dg λdO=>
 bd (jB (.list xs5) (.i .i64 (dO:Int))) λzg=>
 gF zg λxs6=>
 bd (Loop (λtZ=>
 Gm tZ λx3 x4=>
 a7 dg λjJ=>
 aQ (decide (x4<(jJ:Int))) (
 idx dg x4 λy1=>
 gA y1 λlu=>
 vT lu λId Span cF=>
 bd (jB (.list x3) (.i .i64 Id)) λHq=>
 gF Hq λxs7=>
 bd (jB (.list xs7) (.i .i64 Span)) λKB=>
 gF KB λxs8=>
 bd (jB (.list xs8) (.i .i64 cF)) λR9=>
 gF R9 λxs9=>
 some (.inl [.list xs9,.i .i64 (c8 .i64 (x4+1))])) (
 some (.inr (4,[.list x3])))) [.list xs6,.i .i64 0]) λp1=>
 bU (sh p1.1 4)<|
 gC p1.2 λTu D5=>
 gL Tu λx5=>
 gN D5<|
 a7 b7 λlO=>
 bd (jB (.list x5) (.i .i64 (lO:Int))) λAm=>
 gF Am λaiD=>
 bd (Loop (λik=>
 Gm ik λx6 x7=>
 a7 b7 λym=>
 aQ (decide (x7<(ym:Int))) (
 idx b7 x7 λy2=>
 gA y2 λlZ=>
 vS lZ λdX Client Kids=>
 bd (rF (.list x6) (.s dX)) λKU=>
 gF KU λaiE=>
 bd (jB (.list aiE) (.i .i64 Client)) λFs=>
 gF Fs λaa2=>
 bd (
 aQ Kids (
 bd (jB (.list aa2) (.i .i64 1)) λN1=>
 gF N1 λaex=>
 some (0,[.list aex])) (
 bd (jB (.list aa2) (.i .i64 0)) λKV=>
 gF KV λaa3=>
 some (0,[.list aa3]))) λp3=>
 bU (sh p3.1 0)<|
 gC p3.2 λN8 Qu=>
 gL N8 λx8=>
 gN Qu<|
 some (.inl [.list x8,.i .i64 (c8 .i64 (x7+1))])) (
 some (.inr (6,[.list x6])))) [.list aiD,.i .i64 0]) λp2=>
 bU (sh p2.1 6)<|
 gC p2.2 λm24 aa4=>
 gL m24 λx9=>
 gN aa4<|
 a7 Seen λAu=>
 bd (jB (.list x9) (.i .i64 (Au:Int))) λN2=>
 gF N2 λaiF=>
 bd (Loop (λQv=>
 Gm Qv λpq rn=>
 a7 Seen λI5=>
 aQ (decide (rn<(I5:Int))) (
 idx Seen rn λy3=>
 gA y3 λKZ=>
 cv KZ λck Seq E cT bJ Names=>
 bd (sO (.list pq) (.agg (bR ck Seq E cT bJ Names))) λKW=>
 gL KW λzK=>
 some (.inl [.list zK,.i .i64 (c8 .i64 (rn+1))])) (
 some (.inr (8,[.list pq])))) [.list aiF,.i .i64 0]) λp4=>
 bU (sh p4.1 8)<|
 gC p4.2 λm33 xe=>
 gL m33 λzw=>
 gN xe<|
 some (.list zw)
def Q1:GT:=bt 69 (mb AN) Ex
theorem Oo:SG Q1:=sb FA [] [] 137 [15,33,37,41,45,50,56,74,78,82,88,106,110,114,116,121] [] [] [] [] [(27,⟨[1,8],[],[],[(0,[(3,.sc (.k .l))])],[]⟩)] [(31,⟨[1],[],[(3,.sc (.k .l)),(10,.sc (.k (.i .i64)))],[(8,[(3,.sc (.k .l))])],[]⟩),(21,⟨[1],[],[(3,.sc (.k .l)),(8,.sc (.k (.i .i64)))],[(6,[(3,.sc (.k .l))])],[]⟩),(13,⟨[1],[],[(3,.sc (.k .l)),(6,.sc (.k (.i .i64)))],[(4,[(3,.sc (.k .l))])],[]⟩),(3,⟨[1],[],[(3,.sc (.k .l)),(4,.sc (.k (.i .i64)))],[(2,[(3,.sc (.k .l))])],[]⟩)] [] Tryz.func69 (by kernel_rfl) (dp (λ_=>by kernel_rfl))
def AO (a b:MV):Option MV:=gA a λcs=>
 fI cs λbW bN dg b7 Seen=>
 gA b λdP=>
 fI dP λmV kX rY nW AK=>
 bd (AN (.agg (cD bW bN dg b7 Seen))) λrA=>
 gL rA λx=>
 HL x λbs=>
 bd (AN (.agg (cD mV kX rY nW AK))) λaT=>
 gL aT λx1=>
 HL x1 λbs1=>
 some (.b (decide (bs=bs1)))
def Q2:GT:=bt 21 (dC AO) Q1
theorem Oq:SG Q2:=sb Oo [] [] 12 [] [] [] [(1,[0,3,1,2,4,5,6,7])] [] [] [] [] Tryz.func21 (by kernel_rfl) (bl (λ_ _=>by kernel_rfl))
def vw (a b:MV):Option MV:=gL a λa1=>
 gL b λb1=>
 a7 a1 λlen=>
 a7 b1 λcW=>
 aQ (!decide ((len:Int)=(cW:Int))) (
 some (.b false)) (
 bd (Loop (λfw=>
 gC fw λm ek=>
 gI .i64 m λi=>
 gN ek<|
 a7 a1 λdO=>
 aQ (decide (i<(dO:Int))) (
 idx a1 i λy=>
 gS y λx=>
 idx b1 i λy1=>
 gS y1 λx1=>
 aQ (!decide (x=x1)) (
 some (.inr (1,[.b false]))) (
 some (.inl [.i .i64 (c8 .i64 (i+1))]))) (
 some (.inr (2,[])))) [.i .i64 0]) λp=>
 aQ (sh p.1 2) (
 gN p.2<|
 some (.b true)) (
 bU (sh p.1 1)<|
 gC p.2 λm1 iT=>
 gB m1 λx2=>
 gN iT<|
 some (.b x2)))
def Gz:GT:=bt 70 (dC vw) Q2
theorem G8:SG Gz:=sb Oq [] [] 26 [] [] [] [(6,[0,1,2,3,4,5,6,7,8])] [] [] [(4,⟨[0,1],[],[(5,.sc (.k (.i .i64)))],[(1,[(4,.sc (.k .b))]),(2,[])],[]⟩)] [] Tryz.func70 (by kernel_rfl) (bl (λ_ _=>by kernel_rfl))
def Ey (a b:MV):Option MV:=gA a λcs=>
 cv cs λClient Seq E Value Version Names=>
 gA b λdP=>
 cv dP λck mO E1 cT bJ iS=>
 bd (
 aQ (decide (Client=ck)) (
 aQ (decide (Seq=mO)) (
 aQ (decide (E=E1)) (
 aQ (decide (Value=cT)) (
 aQ (decide (Version=bJ)) (
 bd (vw (.list Names) (.list iS)) λrA=>
 gB rA λx=>
 some [.b x]) (
 some [.b false])) (
 some [.b false])) (
 some [.b false])) (
 some [.b false])) (
 some [.b false])) λvs=>
 gC vs λm12 rr=>
 gB m12 λx1=>
 gN rr<|
 some (.b x1)
def Q3:GT:=bt 22 (dC Ey) Gz
theorem Ot:SG Q3:=kQ G8 [] 45 [(1,⟨[2,3],[],[],[(0,[(4,.sc (.k .b))])],[]⟩)] [] [] Tryz.func22 (by kernel_rfl) (bl (λ_ _=>by kernel_rfl))
def yR (a b:MV):Option MV:=gL a λa1=>
 gL b λb1=>
 a7 a1 λlen=>
 a7 b1 λcW=>
 aQ (!decide ((len:Int)=(cW:Int))) (
 some (.b false)) (
 bd (Loop (λfw=>
 gC fw λm ek=>
 gI .i64 m λi=>
 gN ek<|
 a7 a1 λdO=>
 aQ (decide (i<(dO:Int))) (
 idx a1 i λy=>
 gA y λcs=>
 N4 cs λVG HA VH agJ agK=>
 idx b1 i λy1=>
 gA y1 λdP=>
 N4 dP λabm Q4 abn Ou Ov=>
 aQ (!((decide (VG=abm))&&((decide (HA=Q4))&&((decide (VH=abn))&&((decide (agJ=Ou))&&(decide (agK=Ov))))))) (
 some (.inr (1,[.b false]))) (
 some (.inl [.i .i64 (c8 .i64 (i+1))]))) (
 some (.inr (2,[])))) [.i .i64 0]) λp=>
 aQ (sh p.1 2) (
 gN p.2<|
 some (.b true)) (
 bU (sh p.1 1)<|
 gC p.2 λKX rr=>
 gB KX λx=>
 gN rr<|
 some (.b x)))
def JV:GT:=bt 24 (dC yR) Q3
theorem JW:SG JV:=sb Ot [] [] 26 [] [] [] [(6,[0,1,2,3,4,5,6,7,8])] [] [] [(4,⟨[0,1],[],[(5,.sc (.k (.i .i64)))],[(1,[(4,.sc (.k .b))]),(2,[])],[]⟩)] [] Tryz.func24 (by kernel_rfl) (bl (λ_ _=>by kernel_rfl))
def yS (lA:MV):Option MV:=gL lA λtX=>
 bd (Loop (λfw=>
 Gm fw λout i=>
 a7 tX λlen=>
 aQ (decide (i<(len:Int))) (
 idx tX i λy=>
 gA y λcs=>
 N4 cs λVG HA VH agJ agK=>
 idx tX i λy1=>
 gA y1 λdP=>
 N4 dP λabm Q4 abn Ou Ov=>
 a7 out λcW=>
 a7 ([.agg [.s VG,.i .i64 HA,.b VH,.i .i64 Ou,.s Ov]]:List MV) λdO=>
 bU (decide ((cW+dO) *56<=2^46))<|
 some (.inl [.list (out++([.agg [.s VG,.i .i64 HA,.b VH,.i .i64 Ou,.s Ov]]:List MV)),.i .i64 (c8 .i64 (i+1))])) (
 some (.inr (2,[.list out])))) [.list ([]:List MV),.i .i64 0]) λp=>
 bU (sh p.1 2)<|
 gC p.2 λm12 tZ=>
 gL m12 λkR=>
 gN tZ<|
 some (.list kR)
def JX:GT:=bt 25 (mb yS) JV
theorem JY:SG JX:=sb JW [] [] 41 [38] [23] [] [(5,[0,1,2,3,4,5,6,7,8,9,10,11,12,13])] [] [] [(3,⟨[0],[],[(3,.sc (.own 7 157 true)),(4,.sc (.k (.i .i64)))],[(2,[(3,.sc (.own 7 157 true))])],[7]⟩)] [] Tryz.func25 (by kernel_rfl) (dp (λ_=>by kernel_rfl))
def qq (a a1:MV):Option MV:=gA a λcs=>
 fI cs λbW bN dg b7 Seen=>
 gA a1 λdP=>
 gU dP λClient Seq Kind Path Value Version Session Span=>
 bd (
 bd (Hu (.agg (cD bW bN dg b7 Seen))) λrA=>
 gB rA λx=>
 aQ (!x) (
 some [.b true]) (
 bd (Bv (.list ([.agg (dB Client Seq Kind Path Value Version Session Span)]:List MV))) λaT=>
 gB aT λx1=>
 aQ (!x1) (
 some [.b true]) (
 bd (qo (.agg (cD bW bN dg b7 Seen))) λca=>
 gA ca λlu=>
 fI lu λmV kX rY nW AK=>
 bd (BA (.agg (cD mV kX rY nW AK))) λgO=>
 gB gO λx2=>
 some [.b (!x2)]))) λvs=>
 gC vs λm18 tV=>
 gB m18 λx3=>
 gN tV<|
 aQ x3 (
 bd (xm) λoP=>
 gB oP λx4=>
 some (.b x4)) (
 bd (qo (.agg (cD bW bN dg b7 Seen))) λrR=>
 gA rR λlZ=>
 fI lZ λEi AL JP Ej QB=>
 bd (oK (.agg (cD bW bN dg b7 Seen)) (.agg (dB Client Seq Kind Path Value Version Session Span))) λzg=>
 gT zg λiM=>
 gC iM λm24 Ax=>
 gA m24 λKZ=>
 fI KZ λaeL abo aiU aeM amN=>
 gC Ax λm30 QR=>
 gA m30 λTv=>
 cv Tv λck mO E cT bJ Names=>
 gC QR λm37 xe=>
 gL m37 λx5=>
 gN xe<|
 bd (Hz (.agg (dB Client Seq Kind Path Value Version Session Span))) λHq=>
 gA Hq λcs6=>
 gU cs6 λnQ Tw I8 dX ll ft DZ pT=>
 bd (BK (.agg (cD Ei AL JP Ej QB)) (.agg (dB nQ Tw I8 dX ll ft DZ pT))) λKB=>
 gT KB λoO=>
 gC oO λm46 Qx=>
 gA m46 λcs7=>
 fI cs7 λaeN abp aiV aeO amO=>
 gC Qx λm52 Qm=>
 gA m52 λcs8=>
 cv cs8 λDY aaZ E1 CV xd iS=>
 gC Qm λm59 Qz=>
 gL m59 λx6=>
 gN Qz<|
 bd (
 bd (xm) λR9=>
 gB R9 λx7=>
 aQ x7 (
 bd (qo (.agg (cD aeL abo aiU aeM amN))) λAm=>
 gA Am λcs9=>
 fI cs9 λaeP abq aiW aeQ amP=>
 bd (AO (.agg (cD aeP abq aiW aeQ amP)) (.agg (cD aeN abp aiV aeO amO))) λKU=>
 gB KU λx8=>
 aQ x8 (
 bd (Aw (.agg (bR ck mO E cT bJ Names))) λFs=>
 gA Fs λaiS=>
 cv aiS λVs aqv E2 aaY Ql I7=>
 bd (Ey (.agg (bR Vs aqv E2 aaY Ql I7)) (.agg (bR DY aaZ E1 CV xd iS))) λN1=>
 gB N1 λx9=>
 aQ x9 (
 bd (yS (.list x5)) λKV=>
 gL KV λpq=>
 bd (yR (.list pq) (.list x6)) λN2=>
 gB N2 λrn=>
 aQ rn (
 bd (qo (.agg (cD bW bN dg b7 Seen))) λKW=>
 gA KW λaqw=>
 fI aqw λaeR abr aiX aeS amQ=>
 bd (AO (.agg (cD aeR abr aiX aeS amQ)) (.agg (cD Ei AL JP Ej QB))) λaee=>
 gB aee λzK=>
 some [.b zK]) (
 some [.b false])) (
 some [.b false])) (
 some [.b false])) (
 some [.b false])) λTx=>
 gC Tx λm76 abl=>
 gB m76 λzw=>
 gN abl<|
 some (.b zw))
def FB:GT:=bt 3 (dC qq) JX
theorem AP:SG FB:=sb JY [] [] 70 [17] [] [] [(5,[0,1,2,3,4,5,6,7,8,9,10,11,12]),(6,[0,1,2,4,3,5,6,7,8,10,9,11,12,13,14,16,15,17,18,19,20,22,21,23,24,25])] [(6,⟨[2,5,6,7,8,9,10,11],[],[],[(0,[(4,.sc (.k .b))])],[]⟩),(1,⟨[2,3],[],[],[(0,[(26,.sc (.k .b))])],[]⟩)] [] [] [] Tryz.func3 (by kernel_rfl) (bl (λ_ _=>by kernel_rfl))
end
end Dn.S
