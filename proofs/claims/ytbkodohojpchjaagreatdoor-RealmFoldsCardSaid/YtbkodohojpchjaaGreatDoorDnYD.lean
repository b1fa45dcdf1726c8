import Derived.Test.YtbkodohojpchjaaGreatDoorDnYTab
import Derived.Test.YtbkodohojpchjaaGreatDoorDnB
import Derived.Test.YtbkodohojpchjaaGreatDoorDnC
import Derived.Test.YtbkodohojpchjaaGreatDoorDnYT
import Derived.KernelRfl
import Derived.Test.YtbkodohojpchjaaGreatDoorProg
/-
  The functions, on plain values, and their contracts. Conditions: none.
-/
set_option linter.unusedVariables false
set_option linter.unusedSimpArgs false
open Go.IntKind renaming wrap→c9,bits→IN
open Nat renaming beq→sh,le_of_ble_eq_true→AT,eq_of_beq_eq_true→IS
open Int renaming toNat→AI,fdiv→IT
open Go.Extern.SlicesOverlaps renaming overlaps→AS
open List renaming drop→By,take→BY
open Go.Shelf renaming Ren→No
open Go.Op renaming bytesLess→OF
open Go.Proofs.Lays renaming n146→aaq,n160→aar,n151→aas
open Go Dn Go.Proofs
set_option maxRecDepth 100000
namespace Dn.S
noncomputable section
theorem po:lW Tryz.prog (yU PY):=adh (by kernel_rfl)
theorem U4:Sf Tryz.prog (yU PY):=Wo (by kernel_rfl)
theorem xX:Tryz.prog.follows .mixedOrders=true:=by kernel_rfl
def oIB {R:Type}(k0:IntKind)(l0:List MV)(K:Int->Bool->Option R):Option R:=gC l0 λm0 l1=>gI k0 m0 λx0=>gC l1 λm1 l2=>gB m1 λx1=>gN l2<|K x0 x1
def oII {R:Type}(k0 k1:IntKind)(l0:List MV)(K:Int->Int->Option R):Option R:=gC l0 λm0 l1=>gI k0 m0 λx0=>gC l1 λm1 l2=>gI k1 m1 λx1=>gN l2<|K x0 x1
def adT {R:Type}(k0 k1 k2:IntKind)(l0:List MV)(K:Int->Int->Int->Option R):Option R:=gC l0 λm0 l1=>gI k0 m0 λx0=>gC l1 λm1 l2=>gI k1 m1 λx1=>gC l2 λm2 l3=>gI k2 m2 λx2=>gN l3<|K x0 x1 x2
def DE {R:Type}(k0 k1 k2 k4:IntKind)(l0:List MV)(K:Int->Int->Int->List UInt8->Int->List MV->Option R):Option R:=gC l0 λm0 l1=>gI k0 m0 λx0=>gC l1 λm1 l2=>gI k1 m1 λx1=>gC l2 λm2 l3=>gI k2 m2 λx2=>gC l3 λm3 l4=>gS m3 λx3=>gC l4 λm4 l5=>gI k4 m4 λx4=>gC l5 λm5 l6=>gL m5 λx5=>gN l6<|K x0 x1 x2 x3 x4 x5
def Mj {R:Type}(k0 k1 k2 k5 k6 k7:IntKind)(l0:List MV)(K:Int->Int->Int->List UInt8->List UInt8->Int->Int->Int->Option R):Option R:=gC l0 λm0 l1=>gI k0 m0 λx0=>gC l1 λm1 l2=>gI k1 m1 λx1=>gC l2 λm2 l3=>gI k2 m2 λx2=>gC l3 λm3 l4=>gS m3 λx3=>gC l4 λm4 l5=>gS m4 λx4=>gC l5 λm5 l6=>gI k5 m5 λx5=>gC l6 λm6 l7=>gI k6 m6 λx6=>gC l7 λm7 l8=>gI k7 m7 λx7=>gN l8<|K x0 x1 x2 x3 x4 x5 x6 x7
def oIL {R:Type}(k0:IntKind)(l0:List MV)(K:Int->List MV->Option R):Option R:=gC l0 λm0 l1=>gI k0 m0 λx0=>gC l1 λm1 l2=>gL m1 λx1=>gN l2<|K x0 x1
def O6 {R:Type}(l0:List MV)(K:List MV->Bool->Option R):Option R:=gC l0 λm0 l1=>gL m0 λx0=>gC l1 λm1 l2=>gB m1 λx1=>gN l2<|K x0 x1
def oLI {R:Type}(k1:IntKind)(l0:List MV)(K:List MV->Int->Option R):Option R:=gC l0 λm0 l1=>gL m0 λx0=>gC l1 λm1 l2=>gI k1 m1 λx1=>gN l2<|K x0 x1
def I7 {R:Type}(k1:IntKind)(l0:List MV)(K:List MV->Int->List MV->List MV->List MV->Option R):Option R:=gC l0 λm0 l1=>gL m0 λx0=>gC l1 λm1 l2=>gI k1 m1 λx1=>gC l2 λm2 l3=>gL m2 λx2=>gC l3 λm3 l4=>gL m3 λx3=>gC l4 λm4 l5=>gL m4 λx4=>gN l5<|K x0 x1 x2 x3 x4
def nv {R:Type}(k1 k5 k6 k7 k9 k11:IntKind)(l0:List MV)(K:List MV->Int->List MV->List MV->List MV->Int->Int->Int->List UInt8->Int->List MV->Int->Option R):Option R:=gC l0 λm0 l1=>gL m0 λx0=>gC l1 λm1 l2=>gI k1 m1 λx1=>gC l2 λm2 l3=>gL m2 λx2=>gC l3 λm3 l4=>gL m3 λx3=>gC l4 λm4 l5=>gL m4 λx4=>gC l5 λm5 l6=>gI k5 m5 λx5=>gC l6 λm6 l7=>gI k6 m6 λx6=>gC l7 λm7 l8=>gI k7 m7 λx7=>gC l8 λm8 l9=>gS m8 λx8=>gC l9 λm9 l10=>gI k9 m9 λx9=>gC l10 λQo l11=>gL Qo λqq=>gC l11 λTb l12=>gI k11 Tb λrW=>gN l12<|K x0 x1 x2 x3 x4 x5 x6 x7 x8 x9 qq rW
def lk {R:Type}(k1 k5 k6 k7 k9:IntKind)(l0:List MV)(K:List MV->Int->List MV->List MV->List MV->Int->Int->Int->List UInt8->Int->List MV->List MV->Option R):Option R:=gC l0 λm0 l1=>gL m0 λx0=>gC l1 λm1 l2=>gI k1 m1 λx1=>gC l2 λm2 l3=>gL m2 λx2=>gC l3 λm3 l4=>gL m3 λx3=>gC l4 λm4 l5=>gL m4 λx4=>gC l5 λm5 l6=>gI k5 m5 λx5=>gC l6 λm6 l7=>gI k6 m6 λx6=>gC l7 λm7 l8=>gI k7 m7 λx7=>gC l8 λm8 l9=>gS m8 λx8=>gC l9 λm9 l10=>gI k9 m9 λx9=>gC l10 λQo l11=>gL Qo λqq=>gC l11 λTb l12=>gL Tb λrW=>gN l12<|K x0 x1 x2 x3 x4 x5 x6 x7 x8 x9 qq rW
def dr {R:Type}(k1 k5 k6 k7 k10 k11 k12 k13 k14 k15 k17:IntKind)(l0:List MV)(K:List MV->Int->List MV->List MV->List MV->Int->Int->Int->List UInt8->List UInt8->Int->Int->Int->Int->Int->Int->List UInt8->Int->List MV->List MV->Option R):Option R:=gC l0 λm0 l1=>gL m0 λx0=>gC l1 λm1 l2=>gI k1 m1 λx1=>gC l2 λm2 l3=>gL m2 λx2=>gC l3 λm3 l4=>gL m3 λx3=>gC l4 λm4 l5=>gL m4 λx4=>gC l5 λm5 l6=>gI k5 m5 λx5=>gC l6 λm6 l7=>gI k6 m6 λx6=>gC l7 λm7 l8=>gI k7 m7 λx7=>gC l8 λm8 l9=>gS m8 λx8=>gC l9 λm9 l10=>gS m9 λx9=>gC l10 λQo l11=>gI k10 Qo λqq=>gC l11 λTb l12=>gI k11 Tb λrW=>gC l12 λm12 l13=>gI k12 m12 λzw=>gC l13 λQp l14=>gI k13 Qp λzx=>gC l14 λm14 l15=>gI k14 m14 λCY=>gC l15 λm15 l16=>gI k15 m15 λBh=>gC l16 λm16 l17=>gS m16 λDF=>gC l17 λTc l18=>gI k17 Tc λDG=>gC l18 λm18 l19=>gL m18 λDH=>gC l19 λm19 l20=>gL m19 λFm=>gN l20<|K x0 x1 x2 x3 x4 x5 x6 x7 x8 x9 qq rW zw zx CY Bh DF DG DH Fm
def O7 {R:Type}(l0:List MV)(K:List MV->List MV->Option R):Option R:=gC l0 λm0 l1=>gL m0 λx0=>gC l1 λm1 l2=>gL m1 λx1=>gN l2<|K x0 x1
def alH {R:Type}(k2:IntKind)(l0:List MV)(K:List MV->List MV->Int->Option R):Option R:=gC l0 λm0 l1=>gL m0 λx0=>gC l1 λm1 l2=>gL m1 λx1=>gC l2 λm2 l3=>gI k2 m2 λx2=>gN l3<|K x0 x1 x2
def alI {R:Type}(k1:IntKind)(l0:List MV)(K:List UInt8->Int->Bool->Option R):Option R:=gC l0 λm0 l1=>gS m0 λx0=>gC l1 λm1 l2=>gI k1 m1 λx1=>gC l2 λm2 l3=>gB m2 λx2=>gN l3<|K x0 x1 x2
def aat {R:Type}(k1 k3:IntKind)(l0:List MV)(K:List UInt8->Int->Bool->Int->List UInt8->Option R):Option R:=gC l0 λm0 l1=>gS m0 λx0=>gC l1 λm1 l2=>gI k1 m1 λx1=>gC l2 λm2 l3=>gB m2 λx2=>gC l3 λm3 l4=>gI k3 m3 λx3=>gC l4 λm4 l5=>gS m4 λx4=>gN l5<|K x0 x1 x2 x3 x4
def agj {R:Type}(k2 k3:IntKind)(l0:List MV)(K:List UInt8->List UInt8->Int->Int->Option R):Option R:=gC l0 λm0 l1=>gS m0 λx0=>gC l1 λm1 l2=>gS m1 λx1=>gC l2 λm2 l3=>gI k2 m2 λx2=>gC l3 λm3 l4=>gI k3 m3 λx3=>gN l4<|K x0 x1 x2 x3
abbrev fE {R:Type}:= @Mj R .i64 .i64 .i64 .i64 .i64 .i64
abbrev Fo {R:Type}:= @oLI R .i64
abbrev gx {R:Type}:= @agj R .i64 .i64
abbrev Ai {R:Type}:= @alI R .i64
abbrev cO {R:Type}:= @DE R .i64 .i64 .i64 .i64
abbrev eT {R:Type}:= @I7 R .i64
abbrev GV {R:Type}:= @alH R .i64
abbrev xY {R:Type}:= @adT R .i64 .i64 .i64
abbrev jII {R:Type}:= @oII R .i64 .i64
abbrev U5 {R:Type}:= @oIB R .i64
abbrev a8 {R:Type}:= @dr R .i64 .i64 .i64 .i64 .i64 .i64 .i64 .i64 .i64 .i64 .i64
abbrev I8 {R:Type}:= @oIL R .i64
abbrev NV {R:Type}:= @aat R .i64 .i64
@[reducible] def bK (x0 : Int)(x1 : Int)(x2 : Int)(x3 : List UInt8)(x4 : Int)(x5 : List MV) : List MV := [.i .i64 x0, .i .i64 x1, .i .i64 x2, .s x3, .i .i64 x4, .list x5]
@[reducible] def cU (x0 : Int)(x1 : Int)(x2 : Int)(x3 : List UInt8)(x4 : List UInt8)(x5 : Int)(x6 : Int)(x7 : Int) : List MV := [.i .i64 x0, .i .i64 x1, .i .i64 x2, .s x3, .s x4, .i .i64 x5, .i .i64 x6, .i .i64 x7]
@[reducible] def cm (x0 : List MV)(x1 : Int)(x2 : List MV)(x3 : List MV)(x4 : List MV) : List MV := [.list x0, .i .i64 x1, .list x2, .list x3, .list x4]
@[reducible] def sM (x0 : List MV)(x1 : Int)(x2 : List MV)(x3 : List MV)(x4 : List MV)(x5 : Int) : List MV := [.list x0, .i .i64 x1, .list x2, .list x3, .list x4, .i .i64 x5]
@[reducible] def iI (x0 : List MV)(x1 : Int)(x2 : List MV)(x3 : List MV)(x4 : List MV)(x5 : Int)(x6 : Int)(x7 : Int)(x8 : List UInt8)(x9 : Int)(qq : List MV)(rW : Int) : List MV := [.list x0, .i .i64 x1, .list x2, .list x3, .list x4, .i .i64 x5, .i .i64 x6, .i .i64 x7, .s x8, .i .i64 x9, .list qq, .i .i64 rW]
@[reducible] def fh (x0 : List MV)(x1 : Int)(x2 : List MV)(x3 : List MV)(x4 : List MV)(x5 : Int)(x6 : Int)(x7 : Int)(x8 : List UInt8)(x9 : Int)(qq : List MV)(rW : List MV) : List MV := [.list x0, .i .i64 x1, .list x2, .list x3, .list x4, .i .i64 x5, .i .i64 x6, .i .i64 x7, .s x8, .i .i64 x9, .list qq, .list rW]
@[reducible] def aB (x0 : List MV)(x1 : Int)(x2 : List MV)(x3 : List MV)(x4 : List MV)(x5 : Int)(x6 : Int)(x7 : Int)(x8 : List UInt8)(x9 : List UInt8)(qq : Int)(rW : Int)(zw : Int)(zx : Int)(CY : Int)(Bh : Int)(DF : List UInt8)(DG : Int)(DH : List MV)(Fm : List MV) : List MV := [.list x0, .i .i64 x1, .list x2, .list x3, .list x4, .i .i64 x5, .i .i64 x6, .i .i64 x7, .s x8, .s x9, .i .i64 qq, .i .i64 rW, .i .i64 zw, .i .i64 zx, .i .i64 CY, .i .i64 Bh, .s DF, .i .i64 DG, .list DH, .list Fm]
@[reducible] def fc (x0 : List UInt8)(x1 : List UInt8)(x2 : Int)(x3 : Int) : List MV := [.s x0, .s x1, .i .i64 x2, .i .i64 x3]
def U6:List (Nat×sv)->Nat->sv
 |[],_=>default
 |(k,s)::r,t=>bif sh k t then s else U6 r t
def aau:List (Nat×List Nat)->Nat->List Nat
 |[],_=>[]
 |(k,s)::r,t=>bif sh k t then s else aau r t
def aav:List (Nat×Nat)->Nat->Nat
 |[],_=>0
 |(k,s)::r,t=>bif sh k t then s else aav r t
def kk (n:Nat):Nat:=n
def gv (n:Nat):Bool:=bU [63,218,223,225,227,105,106,107,108,109,110,111,112,113,114,115,118,171,179] n
def frs (n:Nat):Bool:=bU [61,63,116,117,194,218,219,223,225,226,227,92,134,135,192] n
def agl:List (Nat×Nat):=[(61,57),(63,57),(116,75),(117,75),(194,9),(218,98),(219,98),(223,98),(225,126),(226,126),(227,126),(92,5),(134,5),(135,5),(192,5)]
def U7:List (Nat×FloatKind)->Nat->Option FloatKind
 |[],_=>none
 |(k,s)::r,t=>bif sh k t then some s else U7 r t
def aaw:List (Nat×FloatKind):=[]
theorem U8: ∀t k,U7 aaw t=some k->Tryz.prog.underlying t=some (.float k):=by intro t k h;cases h
def aax:List (Nat×(Nat×Bool)):=[(222,(75,true))]
def aay:List (Nat×(Nat×List LK))->Nat->Option (Nat×List LK)
 |[],_=>none
 |(k,s)::r,t=>bif sh k t then some s else aay r t
abbrev kp:List LK:=[.k (.l),.k (.i .i64),.k (.l),.k (.l),.k (.l),.k (.i .i64),.k (.i .i64),.k (.i .i64),.k (.s),.k (.s),.k (.i .i64),.k (.i .i64),.k (.i .i64),.k (.i .i64),.k (.i .i64),.k (.i .i64),.k (.s),.k (.i .i64),.k (.l),.own 2000019 77 false]
abbrev U9:List LK:=[.own 2000000 79 false]
def aaz:List (Nat×(Nat×List LK)):=[(105,(0,kp)),(106,(0,kp)),(107,(0,kp)),(108,(0,kp)),(109,(0,kp)),(110,(0,kp)),(111,(0,kp)),(112,(0,kp)),(113,(0,kp)),(114,(0,kp)),(115,(0,kp)),(118,(2,U9)),(171,(0,kp)),(179,(0,kp))]
def dl (n:Nat):Bool:=bU [117] n
def cx:Ctx:=⟨yU PY,kk,λ_ _=>none,gv,frs,aav agl,aay aaz,[],0,[],[],λ_=>[],U7 aaw,IE aax,λ_=>[],λ_=>default,λ_=>default,λ_=>default,dl,[]⟩
def WL (g:Nat->List MV->Option MV)(par:List (Nat×Nat))(n:Nat)(bs fl:List Nat)(fz ord:List (Nat×List Nat))(HN Hg FO:List (Nat×sv))(dyn:List Nat):Ctx:=⟨yU PY,kk,g,gv,frs,aav agl,aay aaz,par,n,bs,fl,aau fz,U7 aaw,IE aax,aau ord,U6 HN,U6 Hg,U6 FO,dl,dyn⟩
theorem Va:E6 Tryz.prog cx:=SM (l:=aax) (by kernel_rfl) (λ_ _ h=>h)
def kF (t:Nat):TI:=match yU PY t with|some I=>I|none=>⟨false,0,0,[],[],[],[],0,[]⟩
theorem tv9:cx.tv 9=some (kF 9):=by kernel_rfl
theorem aif:cx.tv 22=some (kF 22):=by kernel_rfl
theorem aih:cx.tv 25=some (kF 25):=by kernel_rfl
theorem apj:cx.tv 28=some (kF 28):=by kernel_rfl
theorem alJ:cx.tv 31=some (kF 31):=by kernel_rfl
theorem alK:cx.tv 57=some (kF 57):=by kernel_rfl
theorem apk:cx.tv 75=some (kF 75):=by kernel_rfl
theorem aii:cx.tv 98=some (kF 98):=by kernel_rfl
theorem aaA:cx.tv 126=some (kF 126):=by kernel_rfl
theorem adY:Nw Tryz.prog cx 117 75:=by
 have hE:cx.tv 75=some (kF 75):=by kernel_rfl
 refine adQ (P:=Tryz.prog) (f:=117) (fi:=182) (t:=28) (ti:=3) (tb:=4) (fu:=191) (el:=75) (fn:=Tryz.f117) (fni:=Tryz.f182) (r:=(λk=>(([0,1,2,3,4,5,7,8,9,10,6,11,12]:List Nat)[k]?).getD 0)) (ri:=(λk=>(([0,1,2,3,4,5,6,7]:List Nat)[k]?).getD 0)) (o:=jQ Tryz.f117 jR) (oi:=jQ Tryz.f182 jR) ⟨Tryz.func117,by kernel_rfl,by kernel_rfl,by kernel_rfl,by kernel_rfl,?_,by kernel_rfl⟩ ⟨Tryz.func182,by kernel_rfl,by kernel_rfl,by kernel_rfl,by kernel_rfl,?_,by kernel_rfl⟩ po hE (by kernel_rfl) (AT (by kernel_rfl))
 ·constructor<;>exact ⟨by kernel_rfl,by kernel_rfl,by kernel_rfl⟩
 ·constructor<;>exact ⟨by kernel_rfl,by kernel_rfl,by kernel_rfl⟩
theorem Ht:xL Tryz.prog cx:=by
 intro n hn;unfold cx dl bU at hn;cases agm:sh 117 n with
 |true=>have:=IS agm;subst this;exact adY
 |false=>
 simp only [agm,cond_false] at hn;try unfold bU at hn
 cases hn
def Gg:No:=⟨λ|146=>194|221=>233|268=>252|138=>253|143=>254|195=>269|197=>270|218=>271|219=>272|260=>282|217=>283|225=>279|224=>278|267=>284|266=>286|314=>287|n=>n,λ|9=>9|31=>55|3=>3|4=>4|0=>0|105=>349|21=>21|5=>5|46=>226|119=>356|139=>359|138=>358|146=>327|51=>244|n=>n,λ|1=>0|3=>1|4=>2|n=>n⟩
theorem adZ:aaq Tryz.prog Gg:={
 mixed:=by kernel_rfl
 f138:=Tryz.func253.trans (congrArg some (by kernel_rfl))
 f143:=Tryz.func254.trans (congrArg some (by kernel_rfl))
 f146:=Tryz.func194.trans (congrArg some (by kernel_rfl))
 f195:=Tryz.func269.trans (congrArg some (by kernel_rfl))
 f197:=Tryz.func270.trans (congrArg some (by kernel_rfl))
 f217:=Tryz.func283.trans (congrArg some (by kernel_rfl))
 f218:=Tryz.func271.trans (congrArg some (by kernel_rfl))
 f219:=Tryz.func272.trans (congrArg some (by kernel_rfl))
 f221:=Tryz.func233.trans (congrArg some (by kernel_rfl))
 f224:=Tryz.func278.trans (congrArg some (by kernel_rfl))
 f225:=Tryz.func279.trans (congrArg some (by kernel_rfl))
 f260:=Tryz.func282.trans (congrArg some (by kernel_rfl))
 f266:=Tryz.func286.trans (congrArg some (by kernel_rfl))
 f267:=Tryz.func284.trans (congrArg some (by kernel_rfl))
 f268:=Tryz.func252.trans (congrArg some (by kernel_rfl))
 f314:=Tryz.func287.trans (congrArg some (by kernel_rfl))
 t0:=Tryz.underlying0
 a0:=Tryz.isAgg0
 z0:=Tryz.sizeOf0
 v0:=Tryz.zeroValue0
 t3:=Tryz.underlying3
 a3:=Tryz.isAgg3
 z3:=Tryz.sizeOf3
 v3:=Tryz.zeroValue3
 t4:=Tryz.underlying4
 a4:=Tryz.isAgg4
 z4:=Tryz.sizeOf4
 v4:=Tryz.zeroValue4
 t5:=Tryz.underlying5
 a5:=Tryz.isAgg5
 z5:=Tryz.sizeOf5
 v5:=Tryz.zeroValue5
 t9:=Tryz.underlying9
 a9:=Tryz.isAgg9
 z9:=Tryz.sizeOf9
 v9:=Tryz.zeroValue9
 t21:=Tryz.underlying21
 a21:=Tryz.isAgg21
 z21:=Tryz.sizeOf21
 v21:=Tryz.zeroValue21
 t31:=Tryz.underlying55
 a31:=Tryz.isAgg55
 z31:=Tryz.sizeOf55
 v31:=Tryz.zeroValue55
 t46:=Tryz.underlying226
 a46:=Tryz.isAgg226
 z46:=Tryz.sizeOf226
 v46:=Tryz.zeroValue226
 t51:=Tryz.underlying244
 a51:=Tryz.isAgg244
 z51:=Tryz.sizeOf244
 v51:=Tryz.zeroValue244
 t105:=Tryz.underlying349
 a105:=Tryz.isAgg349
 z105:=Tryz.sizeOf349
 v105:=Tryz.zeroValue349
 t119:=Tryz.underlying356
 a119:=Tryz.isAgg356
 z119:=Tryz.sizeOf356
 t138:=Tryz.underlying358
 a138:=Tryz.isAgg358
 z138:=Tryz.sizeOf358
 v138:=Tryz.zeroValue358
 t139:=Tryz.underlying359
 a139:=Tryz.isAgg359
 z139:=Tryz.sizeOf359
 v139:=Tryz.zeroValue359
 t146:=Tryz.underlying327
 a146:=Tryz.isAgg327
 z146:=Tryz.sizeOf327
 v146:=Tryz.zeroValue327
 g1:=by kernel_rfl
 g3:=by kernel_rfl
 g4:=by kernel_rfl}
def Gh:No:=⟨λ|160=>235|232=>256|231=>255|227=>257|234=>259|233=>258|236=>261|235=>260|228=>273|271=>274|151=>238|197=>270|120=>285|152=>263|260=>282|137=>276|119=>277|224=>278|225=>279|217=>283|266=>286|n=>n,λ|9=>9|4=>4|3=>3|5=>5|117=>341|116=>340|0=>0|124=>344|21=>21|105=>349|46=>226|119=>356|139=>359|138=>358|n=>n,λ|3=>1|4=>2|n=>n⟩
theorem ad0:aar Tryz.prog Gh:={
 mixed:=by kernel_rfl
 f119:=Tryz.func277.trans (congrArg some (by kernel_rfl))
 f120:=Tryz.func285.trans (congrArg some (by kernel_rfl))
 f137:=Tryz.func276.trans (congrArg some (by kernel_rfl))
 f151:=Tryz.func238.trans (congrArg some (by kernel_rfl))
 f152:=Tryz.func263.trans (congrArg some (by kernel_rfl))
 f160:=Tryz.func235.trans (congrArg some (by kernel_rfl))
 f197:=Tryz.func270.trans (congrArg some (by kernel_rfl))
 f217:=Tryz.func283.trans (congrArg some (by kernel_rfl))
 f224:=Tryz.func278.trans (congrArg some (by kernel_rfl))
 f225:=Tryz.func279.trans (congrArg some (by kernel_rfl))
 f227:=Tryz.func257.trans (congrArg some (by kernel_rfl))
 f228:=Tryz.func273.trans (congrArg some (by kernel_rfl))
 f231:=Tryz.func255.trans (congrArg some (by kernel_rfl))
 f232:=Tryz.func256.trans (congrArg some (by kernel_rfl))
 f233:=Tryz.func258.trans (congrArg some (by kernel_rfl))
 f234:=Tryz.func259.trans (congrArg some (by kernel_rfl))
 f235:=Tryz.func260.trans (congrArg some (by kernel_rfl))
 f236:=Tryz.func261.trans (congrArg some (by kernel_rfl))
 f260:=Tryz.func282.trans (congrArg some (by kernel_rfl))
 f266:=Tryz.func286.trans (congrArg some (by kernel_rfl))
 f271:=Tryz.func274.trans (congrArg some (by kernel_rfl))
 t0:=Tryz.underlying0
 a0:=Tryz.isAgg0
 z0:=Tryz.sizeOf0
 v0:=Tryz.zeroValue0
 t3:=Tryz.underlying3
 a3:=Tryz.isAgg3
 z3:=Tryz.sizeOf3
 v3:=Tryz.zeroValue3
 t4:=Tryz.underlying4
 a4:=Tryz.isAgg4
 z4:=Tryz.sizeOf4
 v4:=Tryz.zeroValue4
 t5:=Tryz.underlying5
 a5:=Tryz.isAgg5
 z5:=Tryz.sizeOf5
 v5:=Tryz.zeroValue5
 t9:=Tryz.underlying9
 a9:=Tryz.isAgg9
 z9:=Tryz.sizeOf9
 v9:=Tryz.zeroValue9
 t21:=Tryz.underlying21
 a21:=Tryz.isAgg21
 z21:=Tryz.sizeOf21
 v21:=Tryz.zeroValue21
 t46:=Tryz.underlying226
 a46:=Tryz.isAgg226
 z46:=Tryz.sizeOf226
 v46:=Tryz.zeroValue226
 t105:=Tryz.underlying349
 a105:=Tryz.isAgg349
 z105:=Tryz.sizeOf349
 v105:=Tryz.zeroValue349
 t116:=Tryz.underlying340
 a116:=Tryz.isAgg340
 z116:=Tryz.sizeOf340
 t117:=Tryz.underlying341
 a117:=Tryz.isAgg341
 z117:=Tryz.sizeOf341
 v117:=Tryz.zeroValue341
 t119:=Tryz.underlying356
 a119:=Tryz.isAgg356
 z119:=Tryz.sizeOf356
 t124:=Tryz.underlying344
 a124:=Tryz.isAgg344
 z124:=Tryz.sizeOf344
 v124:=Tryz.zeroValue344
 t138:=Tryz.underlying358
 a138:=Tryz.isAgg358
 z138:=Tryz.sizeOf358
 v138:=Tryz.zeroValue358
 t139:=Tryz.underlying359
 a139:=Tryz.isAgg359
 z139:=Tryz.sizeOf359
 v139:=Tryz.zeroValue359
 g3:=by kernel_rfl
 g4:=by kernel_rfl}
def Gi:No:=⟨λ|151=>238|152=>263|137=>276|119=>277|224=>278|225=>279|217=>283|266=>286|n=>n,λ|9=>9|21=>21|4=>4|3=>3|5=>5|0=>0|46=>226|n=>n,λ|n=>n⟩
theorem ad1:aas Tryz.prog Gi:={
 mixed:=by kernel_rfl
 f119:=Tryz.func277.trans (congrArg some (by kernel_rfl))
 f137:=Tryz.func276.trans (congrArg some (by kernel_rfl))
 f151:=Tryz.func238.trans (congrArg some (by kernel_rfl))
 f152:=Tryz.func263.trans (congrArg some (by kernel_rfl))
 f217:=Tryz.func283.trans (congrArg some (by kernel_rfl))
 f224:=Tryz.func278.trans (congrArg some (by kernel_rfl))
 f225:=Tryz.func279.trans (congrArg some (by kernel_rfl))
 f266:=Tryz.func286.trans (congrArg some (by kernel_rfl))
 t0:=Tryz.underlying0
 a0:=Tryz.isAgg0
 z0:=Tryz.sizeOf0
 v0:=Tryz.zeroValue0
 t3:=Tryz.underlying3
 a3:=Tryz.isAgg3
 z3:=Tryz.sizeOf3
 v3:=Tryz.zeroValue3
 t4:=Tryz.underlying4
 a4:=Tryz.isAgg4
 z4:=Tryz.sizeOf4
 v4:=Tryz.zeroValue4
 t5:=Tryz.underlying5
 a5:=Tryz.isAgg5
 z5:=Tryz.sizeOf5
 v5:=Tryz.zeroValue5
 t9:=Tryz.underlying9
 a9:=Tryz.isAgg9
 z9:=Tryz.sizeOf9
 v9:=Tryz.zeroValue9
 t21:=Tryz.underlying21
 a21:=Tryz.isAgg21
 z21:=Tryz.sizeOf21
 v21:=Tryz.zeroValue21
 t46:=Tryz.underlying226
 a46:=Tryz.isAgg226
 z46:=Tryz.sizeOf226
 v46:=Tryz.zeroValue226}
abbrev GT:=Nat->List MV->Option MV
abbrev SG (g:GT):Prop:=jY Tryz.prog cx g
theorem ad2 {g:GT}(h:SG g):SG (bt 194 zY g):=h.GR (λ_=>rfl) (λms r hr=>aai (P:=Tryz.prog) (ρ:=Gg) (c:=cx) adZ (by kernel_rfl) (by kernel_rfl) (by kernel_rfl) tv9 (by kernel_rfl) hr)
theorem ad3 {g:GT}(h:SG g):SG (bt 235 IY g):=h.GR (λ_=>rfl) (λms r hr=>adK (P:=Tryz.prog) (ρ:=Gh) (c:=cx) ad0 (by kernel_rfl) (by kernel_rfl) hr)
theorem ad4 {g:GT}(h:SG g):SG (bt 238 tk g):=h.GR (λ_=>rfl) (λms r hr=>S4 (P:=Tryz.prog) (ρ:=Gi) (c:=cx) ad1 (by kernel_rfl) hr)
theorem aij {g:GT}(h:SG g):SG (bt 61 (iv 6 72) g):=h.GR (λ_=>rfl) (λms r hr=>by obtain ⟨xs,rfl,rfl,h1,h2⟩:=u7 hr;exact Dq (P:=Tryz.prog) (c:=cx) (f:=61) (fn:=Tryz.f61) (t:=31) (I:=kF 31) (E:=kF 57) (i0:=0) (i1:=1) (i2:=2) (i3:=3) (oA:=jQ Tryz.f61 jR 0) (oB:=jQ Tryz.f61 jR 1) (oC:=jQ Tryz.f61 jR 2) (oD:=jQ Tryz.f61 jR 3) (oE:=jQ Tryz.f61 jR 4) (oF:=jQ Tryz.f61 jR 5) (oG:=jQ Tryz.f61 jR 6) (oH:=jQ Tryz.f61 jR 7) po alJ (by kernel_rfl) alK (AT (by kernel_rfl)) (by kernel_rfl) (by kernel_rfl) Tryz.func61 (by kernel_rfl) (by kernel_rfl) (by kernel_rfl) (by kernel_rfl) ⟨by kernel_rfl,by kernel_rfl,by kernel_rfl⟩ ⟨by kernel_rfl,by kernel_rfl,by kernel_rfl⟩ ⟨by kernel_rfl,by kernel_rfl,by kernel_rfl⟩ ⟨by kernel_rfl,by kernel_rfl,by kernel_rfl⟩ ⟨by kernel_rfl,by kernel_rfl,by kernel_rfl⟩ ⟨by kernel_rfl,by kernel_rfl,by kernel_rfl⟩ ⟨by kernel_rfl,by kernel_rfl,by kernel_rfl⟩ ⟨by kernel_rfl,by kernel_rfl,by kernel_rfl⟩ (by rw [show (kF 57).size=6 by kernel_rfl];exact h1) (by rw [show (kF 57).bytes=72 by kernel_rfl];exact h2))
theorem alL:IU Tryz.prog 63 31 3 4 57 122 Tryz.f63 (λk=>k) (jQ Tryz.f63 jR) (ND (jQ Tryz.f63 jR)):=by refine ⟨Tryz.func63,by kernel_rfl,by kernel_rfl,by kernel_rfl,by kernel_rfl,?_,xX,by kernel_rfl⟩;constructor<;>first|exact ⟨by kernel_rfl,by kernel_rfl,by kernel_rfl⟩|kernel_rfl
theorem apl: ∀args w,(callFunc 122 args).run Tryz.prog w=((AS #[31,31] #[4] args).run Tryz.prog w).andThen λv w'=> .ok (.value v) w':=λargs w=>run_callFunc_extern Tryz.func122 (by kernel_rfl) (by kernel_rfl) (by kernel_rfl) (e:=AS #[31,31] #[4]) (by kernel_rfl) args w
theorem aik {g:GT}(h:SG g):SG (bt 63 (kA 72) g):=h.GR (λ_=>rfl) (λms r hr=>by obtain ⟨xs,ys,i,rfl,rfl,h1,h2,h3⟩:=xN hr;exact Ff (P:=Tryz.prog) (c:=cx) (I:=kF 31) (E:=kF 57) alL po alJ (by kernel_rfl) alK (AT (by kernel_rfl)) (by kernel_rfl) (by kernel_rfl) (by kernel_rfl) (by kernel_rfl) apl h1 h2 (by rw [show (kF 57).bytes=72 by kernel_rfl];exact h3))
theorem ad5 {g:GT}(h:SG g):SG (bt 116 (iv 3 32) g):=h.GR (λ_=>rfl) (λms r hr=>by obtain ⟨xs,rfl,rfl,h1,h2⟩:=u7 hr;exact Dq (P:=Tryz.prog) (c:=cx) (f:=116) (fn:=Tryz.f116) (t:=28) (I:=kF 28) (E:=kF 75) (i0:=0) (i1:=1) (i2:=2) (i3:=3) (oA:=jQ Tryz.f116 jR 0) (oB:=jQ Tryz.f116 jR 1) (oC:=jQ Tryz.f116 jR 2) (oD:=jQ Tryz.f116 jR 3) (oE:=jQ Tryz.f116 jR 4) (oF:=jQ Tryz.f116 jR 5) (oG:=jQ Tryz.f116 jR 6) (oH:=jQ Tryz.f116 jR 7) po apj (by kernel_rfl) apk (AT (by kernel_rfl)) (by kernel_rfl) (by kernel_rfl) Tryz.func116 (by kernel_rfl) (by kernel_rfl) (by kernel_rfl) (by kernel_rfl) ⟨by kernel_rfl,by kernel_rfl,by kernel_rfl⟩ ⟨by kernel_rfl,by kernel_rfl,by kernel_rfl⟩ ⟨by kernel_rfl,by kernel_rfl,by kernel_rfl⟩ ⟨by kernel_rfl,by kernel_rfl,by kernel_rfl⟩ ⟨by kernel_rfl,by kernel_rfl,by kernel_rfl⟩ ⟨by kernel_rfl,by kernel_rfl,by kernel_rfl⟩ ⟨by kernel_rfl,by kernel_rfl,by kernel_rfl⟩ ⟨by kernel_rfl,by kernel_rfl,by kernel_rfl⟩ (by rw [show (kF 75).size=3 by kernel_rfl];exact h1) (by rw [show (kF 75).bytes=32 by kernel_rfl];exact h2))
theorem ail:IU Tryz.prog 218 22 3 4 98 246 Tryz.f218 (λk=>k) (jQ Tryz.f218 jR) (ND (jQ Tryz.f218 jR)):=by refine ⟨Tryz.func218,by kernel_rfl,by kernel_rfl,by kernel_rfl,by kernel_rfl,?_,xX,by kernel_rfl⟩;constructor<;>first|exact ⟨by kernel_rfl,by kernel_rfl,by kernel_rfl⟩|kernel_rfl
theorem alM: ∀args w,(callFunc 246 args).run Tryz.prog w=((AS #[22,22] #[4] args).run Tryz.prog w).andThen λv w'=> .ok (.value v) w':=λargs w=>run_callFunc_extern Tryz.func246 (by kernel_rfl) (by kernel_rfl) (by kernel_rfl) (e:=AS #[22,22] #[4]) (by kernel_rfl) args w
theorem ad6 {g:GT}(h:SG g):SG (bt 218 (kA 48) g):=h.GR (λ_=>rfl) (λms r hr=>by obtain ⟨xs,ys,i,rfl,rfl,h1,h2,h3⟩:=xN hr;exact Ff (P:=Tryz.prog) (c:=cx) (I:=kF 22) (E:=kF 98) ail po aif (by kernel_rfl) aii (AT (by kernel_rfl)) (by kernel_rfl) (by kernel_rfl) (by kernel_rfl) (by kernel_rfl) alM h1 h2 (by rw [show (kF 98).bytes=48 by kernel_rfl];exact h3))
theorem ad7 {g:GT}(h:SG g):SG (bt 219 (iv 4 48) g):=h.GR (λ_=>rfl) (λms r hr=>by obtain ⟨xs,rfl,rfl,h1,h2⟩:=u7 hr;exact Dq (P:=Tryz.prog) (c:=cx) (f:=219) (fn:=Tryz.f219) (t:=22) (I:=kF 22) (E:=kF 98) (i0:=0) (i1:=1) (i2:=2) (i3:=3) (oA:=jQ Tryz.f219 jR 0) (oB:=jQ Tryz.f219 jR 1) (oC:=jQ Tryz.f219 jR 2) (oD:=jQ Tryz.f219 jR 3) (oE:=jQ Tryz.f219 jR 4) (oF:=jQ Tryz.f219 jR 5) (oG:=jQ Tryz.f219 jR 6) (oH:=jQ Tryz.f219 jR 7) po aif (by kernel_rfl) aii (AT (by kernel_rfl)) (by kernel_rfl) (by kernel_rfl) Tryz.func219 (by kernel_rfl) (by kernel_rfl) (by kernel_rfl) (by kernel_rfl) ⟨by kernel_rfl,by kernel_rfl,by kernel_rfl⟩ ⟨by kernel_rfl,by kernel_rfl,by kernel_rfl⟩ ⟨by kernel_rfl,by kernel_rfl,by kernel_rfl⟩ ⟨by kernel_rfl,by kernel_rfl,by kernel_rfl⟩ ⟨by kernel_rfl,by kernel_rfl,by kernel_rfl⟩ ⟨by kernel_rfl,by kernel_rfl,by kernel_rfl⟩ ⟨by kernel_rfl,by kernel_rfl,by kernel_rfl⟩ ⟨by kernel_rfl,by kernel_rfl,by kernel_rfl⟩ (by rw [show (kF 98).size=4 by kernel_rfl];exact h1) (by rw [show (kF 98).bytes=48 by kernel_rfl];exact h2))
theorem aim:Qe Tryz.prog 223 22 3 98 Tryz.f223 (λk=>k) (jQ Tryz.f223 jR):=by refine ⟨Tryz.func223,by kernel_rfl,by kernel_rfl,by kernel_rfl,by kernel_rfl,?_,xX,by kernel_rfl⟩;constructor<;>first|exact ⟨by kernel_rfl,by kernel_rfl,by kernel_rfl⟩|kernel_rfl
theorem ad8 {g:GT}(h:SG g):SG (bt 223 qL g):=h.GR (λ_=>rfl) (λms r hr=>by obtain ⟨xs,i,j,rfl,rfl,h1,h2⟩:=Dv hr;exact Mb (P:=Tryz.prog) (c:=cx) (I:=kF 22) (E:=kF 98) aim po aif (by kernel_rfl) aii (by kernel_rfl) (by kernel_rfl) (by kernel_rfl) h1 h2)
theorem ain:IU Tryz.prog 225 25 3 4 126 248 Tryz.f225 (λk=>k) (jQ Tryz.f225 jR) (ND (jQ Tryz.f225 jR)):=by refine ⟨Tryz.func225,by kernel_rfl,by kernel_rfl,by kernel_rfl,by kernel_rfl,?_,xX,by kernel_rfl⟩;constructor<;>first|exact ⟨by kernel_rfl,by kernel_rfl,by kernel_rfl⟩|kernel_rfl
theorem alN: ∀args w,(callFunc 248 args).run Tryz.prog w=((AS #[25,25] #[4] args).run Tryz.prog w).andThen λv w'=> .ok (.value v) w':=λargs w=>run_callFunc_extern Tryz.func248 (by kernel_rfl) (by kernel_rfl) (by kernel_rfl) (e:=AS #[25,25] #[4]) (by kernel_rfl) args w
theorem ad9 {g:GT}(h:SG g):SG (bt 225 (kA 24) g):=h.GR (λ_=>rfl) (λms r hr=>by obtain ⟨xs,ys,i,rfl,rfl,h1,h2,h3⟩:=xN hr;exact Ff (P:=Tryz.prog) (c:=cx) (I:=kF 25) (E:=kF 126) ain po aih (by kernel_rfl) aaA (AT (by kernel_rfl)) (by kernel_rfl) (by kernel_rfl) (by kernel_rfl) (by kernel_rfl) alN h1 h2 (by rw [show (kF 126).bytes=24 by kernel_rfl];exact h3))
theorem aea {g:GT}(h:SG g):SG (bt 226 (iv 3 24) g):=h.GR (λ_=>rfl) (λms r hr=>by obtain ⟨xs,rfl,rfl,h1,h2⟩:=u7 hr;exact Dq (P:=Tryz.prog) (c:=cx) (f:=226) (fn:=Tryz.f226) (t:=25) (I:=kF 25) (E:=kF 126) (i0:=0) (i1:=1) (i2:=2) (i3:=3) (oA:=jQ Tryz.f226 jR 0) (oB:=jQ Tryz.f226 jR 1) (oC:=jQ Tryz.f226 jR 2) (oD:=jQ Tryz.f226 jR 3) (oE:=jQ Tryz.f226 jR 4) (oF:=jQ Tryz.f226 jR 5) (oG:=jQ Tryz.f226 jR 6) (oH:=jQ Tryz.f226 jR 7) po aih (by kernel_rfl) aaA (AT (by kernel_rfl)) (by kernel_rfl) (by kernel_rfl) Tryz.func226 (by kernel_rfl) (by kernel_rfl) (by kernel_rfl) (by kernel_rfl) ⟨by kernel_rfl,by kernel_rfl,by kernel_rfl⟩ ⟨by kernel_rfl,by kernel_rfl,by kernel_rfl⟩ ⟨by kernel_rfl,by kernel_rfl,by kernel_rfl⟩ ⟨by kernel_rfl,by kernel_rfl,by kernel_rfl⟩ ⟨by kernel_rfl,by kernel_rfl,by kernel_rfl⟩ ⟨by kernel_rfl,by kernel_rfl,by kernel_rfl⟩ ⟨by kernel_rfl,by kernel_rfl,by kernel_rfl⟩ ⟨by kernel_rfl,by kernel_rfl,by kernel_rfl⟩ (by rw [show (kF 126).size=3 by kernel_rfl];exact h1) (by rw [show (kF 126).bytes=24 by kernel_rfl];exact h2))
theorem aio:Qe Tryz.prog 227 25 3 126 Tryz.f227 (λk=>k) (jQ Tryz.f227 jR):=by refine ⟨Tryz.func227,by kernel_rfl,by kernel_rfl,by kernel_rfl,by kernel_rfl,?_,xX,by kernel_rfl⟩;constructor<;>first|exact ⟨by kernel_rfl,by kernel_rfl,by kernel_rfl⟩|kernel_rfl
theorem aeb {g:GT}(h:SG g):SG (bt 227 qL g):=h.GR (λ_=>rfl) (λms r hr=>by obtain ⟨xs,i,j,rfl,rfl,h1,h2⟩:=Dv hr;exact Mb (P:=Tryz.prog) (c:=cx) (I:=kF 25) (E:=kF 126) aio po aih (by kernel_rfl) aaA (by kernel_rfl) (by kernel_rfl) (by kernel_rfl) h1 h2)
def H61:GT:=bt 61 (iv 6 72) (λ_ _=>none)
theorem aaB:SG H61:=aij (jY.none _ _)
def H63:GT:=bt 63 (kA 72) H61
theorem aaC:SG H63:=aik aaB
def alO:GT:=bt 116 (iv 3 32) H63
theorem WM:SG alO:=ad5 aaC
def alP:GT:=bt 194 zY alO
theorem WN:SG alP:=ad2 WM
def alQ:GT:=bt 218 (kA 48) alP
theorem WO:SG alQ:=ad6 WN
def alR:GT:=bt 219 (iv 4 48) alQ
theorem WQ:SG alR:=ad7 WO
def alS:GT:=bt 223 qL alR
theorem WR:SG alS:=ad8 WQ
def alT:GT:=bt 225 (kA 24) alS
theorem WS:SG alT:=ad9 WR
def alU:GT:=bt 226 (iv 3 24) alT
theorem WT:SG alU:=aea WS
def alV:GT:=bt 227 qL alU
theorem WU:SG alV:=aeb WT
def alW:GT:=bt 235 IY alV
theorem WV:SG alW:=ad3 WU
def alX:GT:=bt 238 tk alW
theorem WW:SG alX:=ad4 WV
theorem sn {g:GT}(s:SG g)(cE:List (List Kd))(par:List (Nat×Nat))(tn:Nat)(bs fl:List Nat)(fz ord:List (Nat×List Nat))(HN Hg FO:List (Nat×sv))(dyn:List Nat){n:Nat}{fn:Func}{F:List MV->Option MV}(hf:Tryz.prog.funcs[n]? =some fn)(hh:L7 (WL g par tn bs fl fz ord HN Hg FO dyn) n fn cE=true)(hF: ∀{ms r},F ms=some r->HV (WL g par tn bs fl fz ord HN Hg FO dyn) cE none fn ms=some r):SG (bt n F g):=s.fn (c':=WL g par tn bs fl fz ord HN Hg FO dyn) ⟨rfl,rfl,rfl,rfl,rfl,rfl,rfl,rfl,rfl⟩ rfl po U4 U8 Va xX Ht hf hh (λ_=>rfl) (fresh:=none) rfl hF
theorem kO {g:GT}(s:SG g)(cE:List (List Kd))(tn:Nat)(HN Hg FO:List (Nat×sv)){n:Nat}{fn:Func}{F:List MV->Option MV}(hf:Tryz.prog.funcs[n]? =some fn)(hh:L7 (WL g [] tn [] [] [] [] HN Hg FO []) n fn cE=true)(hF: ∀{ms r},F ms=some r->HV (WL g [] tn [] [] [] [] HN Hg FO []) cE none fn ms=some r):SG (bt n F g):=sn s cE [] tn [] [] [] [] HN Hg FO [] hf hh hF
theorem RV {g:GT}(s:SG g)(pos:Nat)(ks:List LK)(cE:List (List Kd))(par:List (Nat×Nat))(tn:Nat)(bs fl:List Nat)(fz ord:List (Nat×List Nat))(HN Hg FO:List (Nat×sv))(dyn:List Nat){n:Nat}{fn:Func}{F:List MV->Option MV}(hf:Tryz.prog.funcs[n]? =some fn)(hs:cx.sig n=some (pos,ks))(hh:UQ (WL g par tn bs fl fz ord HN Hg FO dyn) n fn cE=true)(hF: ∀{ms r},F ms=some r->Ls (WL g par tn bs fl fz ord HN Hg FO dyn) cE pos ks fn ms=some r):SG (bt n F g):=s.RV po U4 U8 Va xX Ht hf hs (λ_=>rfl) λh=>⟨WL g par tn bs fl fz ord HN Hg FO dyn,⟨rfl,rfl,rfl,rfl,rfl,rfl,rfl,rfl,rfl⟩,rfl,hh,hF h⟩
theorem fnF {g:GT}(s:SG g)(ty:Nat)(cE:List (List Kd))(par:List (Nat×Nat))(tn:Nat)(bs fl:List Nat)(fz ord:List (Nat×List Nat))(HN Hg FO:List (Nat×sv))(dyn:List Nat){n:Nat}{fn:Func}{F:List MV->Option MV}(hf:Tryz.prog.funcs[n]? =some fn)(hh:L7 (WL g par tn bs fl fz ord HN Hg FO dyn) n fn cE=true)(EW:IQ (WL g par tn bs fl fz ord HN Hg FO dyn) n fn (some ty)=true)(hF: ∀{ms r},F ms=some r->HV (WL g par tn bs fl fz ord HN Hg FO dyn) cE (some ty) fn ms=some r):SG (bt n F g):=s.fn (c':=WL g par tn bs fl fz ord HN Hg FO dyn) ⟨rfl,rfl,rfl,rfl,rfl,rfl,rfl,rfl,rfl⟩ rfl po U4 U8 Va xX Ht hf hh (λ_=>rfl) EW hF
abbrev WX (d:List MV->Option MV):List MV->Option MV:=λms=>match ms with|[.cell (.func off a0)]=>(match sh off 0 with|true=>d a0|false=>none)|_=>none
theorem tT {d:List MV->Option MV}{B:List MV->Option MV}(h: ∀a0,B [.cell (.func 0 a0)]=d a0){ms:List MV}{r:MV}(e:WX d ms=some r):B ms=some r:=by
 unfold WX at e;split at e
 ·rename_i off a0;cases ho:sh off 0 with
  |true=>have:=IS ho;subst this;exact (h _).trans e
  |false=>rw [ho] at e;cases e
 ·cases e
abbrev cl2 (d:List MV->MV->Option MV):List MV->Option MV:=λms=>match ms with|[.cell (.func off a0),a1]=>(match sh off 0 with|true=>d a0 a1|false=>none)|_=>none
theorem aaD {d:List MV->MV->Option MV}{B:List MV->Option MV}(h: ∀a0 a1,B [.cell (.func 0 a0),a1]=d a0 a1){ms:List MV}{r:MV}(e:cl2 d ms=some r):B ms=some r:=by
 unfold cl2 at e;split at e
 ·rename_i off a0 a1;cases ho:sh off 0 with
  |true=>have:=IS ho;subst this;exact (h _ _).trans e
  |false=>rw [ho] at e;cases e
 ·cases e
def Bi (lA:MV):Option MV:=gL lA λpT=>
 bd (Loop (λfg=>
 gC fg λm eg=>
 gI .i64 m λi=>
 gN eg<|
 aV pT λlen=>
 aW (decide (i<(len:Int))) (
 bd (
 aW (decide (i=30)) (
 some [.b true]) (
 idx pT i λy=>
 gA y λcs=>
 fE cs λClient Seq Kind Path Value Version Session Span=>
 aW (decide ((200:Int)<(Path.length:Int))) (
 some [.b true]) (
 idx pT i λy1=>
 gA y1 λdU=>
 fE dU λbZ j9 Gj ew cC bF Aj pU=>
 some [.b (decide ((1100:Int)<(cC.length:Int)))]))) λvs=>
 gC vs λTc wT=>
 gB Tc λx=>
 gN wT<|
 aW x (
 some (.inr (1,[.b false]))) (
 some (.inl [.i .i64 (c9 .i64 (i+1))]))) (
 some (.inr (2,[])))) [.i .i64 0]) λp=>
 aW (sh p.1 2) (
 gN p.2<|
 some (.b true)) (
 bP (sh p.1 1)<|
 gC p.2 λm18 DI=>
 gB m18 λx1=>
 gN DI<|
 some (.b x1))
def Mk:GT:=bt 14 (nX Bi) alX
theorem KY:SG Mk:=kO WW [] 30 [(4,⟨[0,3],[],[],[(0,[(29,.sc (.k .b))])],[]⟩)] [] [(2,⟨[0],[],[(3,.sc (.k (.i .i64)))],[(1,[(2,.sc (.k .b))]),(2,[])],[]⟩)] Tryz.func14 (by kernel_rfl) (dP (λ_=>by kernel_rfl))
def DJ (p:MV):Option MV:=gS p λp1=>
 bd (
 aW (decide ((p1.length:Int)=0)) (
 some [.b true]) (
 bP (decide ((0:Int)<=0/\(0:Int)<(p1.length:Int)))<|
 some [.b (!decide (((p1.getD (AI 0) 0).toNat:Int)=47))])) λvs=>
 gC vs λm fg=>
 gB m λx=>
 gN fg<|
 aW x (
 some (.cg [.list ([]:List MV),.b false])) (
 aW (decide (p1=([47]:List UInt8))) (
 some (.cg [.list ([]:List MV),.b true])) (
 bd (Loop (λeg=>
 gC eg λm1 jg=>
 gL m1 λout=>
 gC jg λm2 nd=>
 gS m2 λname=>
 gC nd λm3 n6=>
 gI .i64 m3 λi=>
 gN n6<|
 aW (decide (i<(p1.length:Int))) (
 bP (decide ((0:Int)<=i/\i<(p1.length:Int)))<|
 bd (
 aW (decide (((p1.getD (AI i) 0).toNat:Int)=47)) (
 aV out λlen=>
 aV ([.s name]:List MV) λcX=>
 bP (decide ((len+cX) *16<=2^46))<|
 some (0,[.list (out++([.s name]:List MV)),.s ([]:List UInt8)])) (
 bP (decide ((0:Int)<=i/\i<(p1.length:Int)))<|
 HQ ([.i .u8 ((p1.getD (AI i) 0).toNat:Int)]:List MV) λbs=>
 bP (decide (name.length+bs.length<=2^46))<|
 some (0,[.list out,.s (name++bs)]))) λp3=>
 bP (sh p3.1 0)<|
 gC p3.2 λm4 ka=>
 gL m4 λjy=>
 gC ka λm5 kG=>
 gS m5 λalY=>
 gN kG<|
 some (.inl [.list jy,.s alY,.i .i64 (c9 .i64 (i+1))])) (
 some (.inr (2,[.list out,.s name])))) [.list ([]:List MV),.s ([]:List UInt8),.i .i64 1]) λp2=>
 bP (sh p2.1 2)<|
 gC p2.2 λm6 kb=>
 gL m6 λDK=>
 gC kb λm7 kc=>
 gS m7 λagn=>
 gN kc<|
 aV DK λdz=>
 aV ([.s agn]:List MV) λiR=>
 bP (decide ((dz+iR) *16<=2^46))<|
 some (.cg [.list (DK++([.s agn]:List MV)),.b true])))
def Vb:GT:=bt 166 (nX DJ) Mk
theorem Qq:SG Vb:=sn KY [] [] 46 [32,43] [] [] [] [(2,⟨[0,4],[7],[],[(0,[(15,.sc (.k .b))])],[7,38]⟩)] [(11,⟨[0,6],[],[],[(0,[(4,.sc (.own 7 9 true)),(5,.sc (.k .s))])],[7,38]⟩)] [(8,⟨[0],[],[(4,.sc (.own 7 9 true)),(5,.sc (.k .s)),(6,.sc (.k (.i .i64)))],[(2,[(4,.sc (.own 7 9 true)),(5,.sc (.k .s))])],[7,38]⟩)] [] Tryz.func166 (by kernel_rfl) (dP (λ_=>by kernel_rfl))
def xZ (sA:MV):Option MV:=gS sA λkZ=>
 bd (Loop (λfg=>
 gC fg λm eg=>
 gI .i64 m λi=>
 gN eg<|
 aW (decide (i<(kZ.length:Int))) (
 bP (decide ((0:Int)<=i/\i<(kZ.length:Int)))<|
 bd (
 aW (decide ((97:Int)<=((kZ.getD (AI i) 0).toNat:Int))) (
 aW (decide (((kZ.getD (AI i) 0).toNat:Int)<=122)) (
 some [.b true]) (
 aW (decide ((48:Int)<=((kZ.getD (AI i) 0).toNat:Int))) (
 aW (decide (((kZ.getD (AI i) 0).toNat:Int)<=57)) (
 some [.b true]) (
 aW (decide (((kZ.getD (AI i) 0).toNat:Int)=45)) (
 some [.b true]) (
 some [.b (decide (((kZ.getD (AI i) 0).toNat:Int)=95))]))) (
 aW (decide (((kZ.getD (AI i) 0).toNat:Int)=45)) (
 some [.b true]) (
 some [.b (decide (((kZ.getD (AI i) 0).toNat:Int)=95))])))) (
 aW (decide ((48:Int)<=((kZ.getD (AI i) 0).toNat:Int))) (
 aW (decide (((kZ.getD (AI i) 0).toNat:Int)<=57)) (
 some [.b true]) (
 aW (decide (((kZ.getD (AI i) 0).toNat:Int)=45)) (
 some [.b true]) (
 some [.b (decide (((kZ.getD (AI i) 0).toNat:Int)=95))]))) (
 aW (decide (((kZ.getD (AI i) 0).toNat:Int)=45)) (
 some [.b true]) (
 some [.b (decide (((kZ.getD (AI i) 0).toNat:Int)=95))])))) λvs=>
 gC vs λm1 jg=>
 gB m1 λletter=>
 gN jg<|
 aW (!letter) (
 some (.inr (1,[.b false]))) (
 some (.inl [.i .i64 (c9 .i64 (i+1))]))) (
 some (.inr (2,[])))) [.i .i64 0]) λp=>
 aW (sh p.1 2) (
 gN p.2<|
 bd (
 aW (decide ((1:Int)<=(kZ.length:Int))) (
 some [.b (decide ((kZ.length:Int)<=30))]) (
 some [.b false])) λjJ=>
 gC jJ λm2 nd=>
 gB m2 λx=>
 gN nd<|
 some (.b x)) (
 bP (sh p.1 1)<|
 gC p.2 λm3 n6=>
 gB m3 λx1=>
 gN n6<|
 some (.b x1))
def I9:GT:=bt 167 (nX xZ) Vb
theorem Ja:SG I9:=kO Qq [] 47 [(8,⟨[0],[],[],[(0,[(2,.sc (.k .b))])],[]⟩),(5,⟨[0,3,4],[],[],[(0,[(5,.sc (.k .b))])],[]⟩)] [] [(2,⟨[0],[],[(3,.sc (.k (.i .i64)))],[(1,[(2,.sc (.k .b))]),(2,[])],[]⟩)] Tryz.func167 (by kernel_rfl) (dP (λ_=>by kernel_rfl))
def oz (p:MV):Option MV:=gS p λp1=>
 aW (decide ((100:Int)<(p1.length:Int))) (
 some (.b false)) (
 bd (DJ (.s p1)) λrA=>
 gT rA λvs=>
 O6 vs λx x1=>
 bd (Loop (λjg=>
 gC jg λm2 nd=>
 gI .i64 m2 λi=>
 gN nd<|
 aV x λlen=>
 aW (decide (i<(len:Int))) (
 idx x i λy=>
 gS y λx2=>
 bd (xZ (.s x2)) λaT=>
 gB aT λx3=>
 aW (!x3) (
 some (.inr (1,[.b false]))) (
 some (.inl [.i .i64 (c9 .i64 (i+1))]))) (
 some (.inr (2,[])))) [.i .i64 0]) λp2=>
 aW (sh p2.1 2) (
 gN p2.2<|
 bd (
 aW x1 (
 aV x λcX=>
 some [.b (decide ((cX:Int)<=8))]) (
 some [.b false])) λjJ=>
 gC jJ λm3 n6=>
 gB m3 λx4=>
 gN n6<|
 some (.b x4)) (
 bP (sh p2.1 1)<|
 gC p2.2 λm4 ka=>
 gB m4 λx5=>
 gN ka<|
 some (.b x5)))
def Ml:GT:=bt 100 (nX oz) I9
theorem KZ:SG Ml:=kO Ja [] 32 [(9,⟨[3,4],[],[],[(0,[(2,.sc (.k .b))])],[]⟩)] [] [(5,⟨[3,4],[],[(5,.sc (.k (.i .i64)))],[(1,[(2,.sc (.k .b))]),(2,[])],[]⟩)] Tryz.func100 (by kernel_rfl) (dP (λ_=>by kernel_rfl))
def qt (p:MV):Option MV:=gS p λp1=>
 bd (oz (.s p1)) λrA=>
 gB rA λx=>
 aW (!x) (
 some (.cg [.list ([]:List MV),.i .i64 13])) (
 bd (DJ (.s p1)) λaT=>
 gT aT λvs=>
 O6 vs λx1 x2=>
 some (.cg [.list x1,.i .i64 0]))
def Mm:GT:=bt 168 (nX qt) Ml
theorem K0:SG Mm:=kO KZ [] 15 [] [] [] Tryz.func168 (by kernel_rfl) (dP (λ_=>by kernel_rfl))
def Bj (p q:MV):Option MV:=gS p λp1=>
 gS q λq1=>
 bd (qt (.s p1)) λrA=>
 gT rA λvs=>
 Fo vs λx x1=>
 bd (qt (.s q1)) λaT=>
 gT aT λjJ=>
 Fo jJ λx2 x3=>
 bd (
 aW (!decide (x1=0)) (
 some [.b true]) (
 some [.b (!decide (x3=0))])) λpP=>
 gC pP λm4 n6=>
 gB m4 λx4=>
 gN n6<|
 aW x4 (
 some (.b false)) (
 bd (Loop (λka=>
 gC ka λm5 kG=>
 gI .i64 m5 λi=>
 gN kG<|
 bd (
 aV x λlen=>
 aW (decide (i<(len:Int))) (
 aV x2 λcX=>
 some [.b (decide (i<(cX:Int)))]) (
 some [.b false])) λWY=>
 gC WY λm6 kb=>
 gB m6 λx5=>
 gN kb<|
 aW x5 (
 idx x i λy=>
 gS y λx6=>
 idx x2 i λy1=>
 gS y1 λx7=>
 aW (!decide (x6=x7)) (
 idx x i λy2=>
 gS y2 λx8=>
 idx x2 i λy3=>
 gS y3 λx9=>
 some (.inr (1,[.b (OF x8 x9)]))) (
 some (.inl [.i .i64 (c9 .i64 (i+1))]))) (
 some (.inr (2,[])))) [.i .i64 0]) λp2=>
 aW (sh p2.1 2) (
 gN p2.2<|
 aV x λdz=>
 aV x2 λiR=>
 some (.b (decide ((dz:Int)<(iR:Int))))) (
 bP (sh p2.1 1)<|
 gC p2.2 λm7 kc=>
 gB m7 λqq=>
 gN kc<|
 some (.b qq)))
def Mn:GT:=bt 101 (dy Bj) Mm
theorem K1:SG Mn:=sn K0 [] [] 61 [] [] [] [(8,[0,1,2,3,4,5,6,7,8]),(9,[0,1,2,3,4,5,6,7,8,9])] [(6,⟨[5,7,9],[],[],[(0,[(35,.sc (.k .b))])],[]⟩),(3,⟨[5,6,7,8],[],[],[(0,[(25,.sc (.k .b))])],[]⟩)] [] [(6,⟨[5,7],[],[(9,.sc (.k (.i .i64)))],[(1,[(4,.sc (.k .b))]),(2,[])],[]⟩)] [] Tryz.func101 (by kernel_rfl) (bg (λ_ _=>by kernel_rfl))
def DL (lA:MV):Option MV:=gL lA λpT=>
 bd (Loop (λfg=>
 gC fg λm eg=>
 gS m λout=>
 gC eg λm1 jg=>
 gI .i64 m1 λi=>
 gN jg<|
 aV pT λlen=>
 aW (decide (i<(len:Int))) (
 bP (decide (out.length+([47]:List UInt8).length<=2^46))<|
 idx pT i λy=>
 gS y λx=>
 bP (decide ((out++([47]:List UInt8)).length+x.length<=2^46))<|
 some (.inl [.s ((out++([47]:List UInt8))++x),.i .i64 (c9 .i64 (i+1))])) (
 some (.inr (2,[.s out])))) [.s ([]:List UInt8),.i .i64 0]) λp=>
 bP (sh p.1 2)<|
 gC p.2 λm2 nd=>
 gS m2 λjy=>
 gN nd<|
 aW (decide (jy=([]:List UInt8))) (
 some (.s ([47]:List UInt8))) (
 some (.s jy))
def Qr:GT:=bt 169 (nX DL) Mn
theorem NW:SG Qr:=kO K1 [] 21 [] [] [(3,⟨[0],[],[(3,.sc (.k .s)),(4,.sc (.k (.i .i64)))],[(2,[(3,.sc (.k .s))])],[]⟩)] Tryz.func169 (by kernel_rfl) (dP (λ_=>by kernel_rfl))
def qu (p:MV):Option MV:=gS p λp1=>
 bd (qt (.s p1)) λrA=>
 gT rA λvs=>
 Fo vs λx x1=>
 aW (!decide (x1=0)) (
 some (.cg [.s ([]:List UInt8),.i .i64 x1])) (
 aV x λlen=>
 aW (decide ((len:Int)=0)) (
 some (.cg [.s ([]:List UInt8),.i .i64 6])) (
 aV x λcX=>
 aV x λdz=>
 bP (decide ((0:Int)<=0/\(0:Int)<=(c9 .i64 ((cX:Int)-1))/\(c9 .i64 ((cX:Int)-1))<=(dz:Int)))<|
 bd (DL (.list (By (AI 0) (BY (AI (c9 .i64 ((cX:Int)-1))) x)))) λaT=>
 gS aT λx2=>
 some (.cg [.s x2,.i .i64 0])))
def Jb:GT:=bt 102 (nX qu) Qr
theorem Jc:SG Jb:=kO NW [] 23 [] [] [] Tryz.func102 (by kernel_rfl) (dP (λ_=>by kernel_rfl))
def Ak (sA p:MV):Option MV:=gA sA λcs=>
 gC cs λm fg=>
 gL m λL=>
 gN fg<|
 gS p λp1=>
 bd (Loop (λeg=>
 gC eg λm1 jg=>
 gI .i64 m1 λi=>
 gN jg<|
 aV L λlen=>
 aW (decide (i<(len:Int))) (
 idx L i λy=>
 gA y λdU=>
 gx dU λPath Value Version b5=>
 aW (decide (Path=p1)) (
 some (.inr (1,[.i .i64 i]))) (
 some (.inl [.i .i64 (c9 .i64 (i+1))]))) (
 some (.inr (2,[])))) [.i .i64 0]) λp2=>
 aW (sh p2.1 2) (
 gN p2.2<|
 some (.i .i64 (-1))) (
 bP (sh p2.1 1)<|
 gC p2.2 λm6 kb=>
 gI .i64 m6 λx=>
 gN kb<|
 some (.i .i64 x))
def aaE:GT:=bt 103 (dy Ak) Jb
theorem Td:SG aaE:=kO Jc [] 22 [] [] [(2,⟨[1,2],[],[(5,.sc (.k (.i .i64)))],[(1,[(4,.sc (.k (.i .i64)))]),(2,[])],[]⟩)] Tryz.func103 (by kernel_rfl) (bg (λ_ _=>by kernel_rfl))
def Hu (lA w:MV):Option MV:=gL lA λpT=>
 gA w λcs=>
 Ai cs λPath Client Kids=>
 bd (Loop (λnd=>
 gC nd λm3 n6=>
 gI .i64 m3 λi=>
 gN n6<|
 aV pT λlen=>
 aW (decide (i<(len:Int))) (
 idx pT i λy=>
 gA y λdU=>
 Ai dU λew bZ Gk=>
 aW ((decide (ew=Path))&&((decide (bZ=Client))&&(decide (Gk=Kids)))) (
 some (.inr (1,[.b true]))) (
 some (.inl [.i .i64 (c9 .i64 (i+1))]))) (
 some (.inr (2,[])))) [.i .i64 0]) λp=>
 aW (sh p.1 2) (
 gN p.2<|
 some (.b false)) (
 bP (sh p.1 1)<|
 gC p.2 λm7 kc=>
 gB m7 λx=>
 gN kc<|
 some (.b x))
def Vc:GT:=bt 104 (dy Hu) aaE
theorem Qs:SG Vc:=sn Td [] [] 18 [] [] [] [(4,[0,1,2,3,4,5])] [] [] [(2,⟨[0,3],[],[(5,.sc (.k (.i .i64)))],[(1,[(4,.sc (.k .b))]),(2,[])],[]⟩)] [] Tryz.func104 (by kernel_rfl) (bg (λ_ _=>by kernel_rfl))
def DM (rA:MV):Option MV:=gA rA λcs=>
 cO cs λClient Seq E Value Version Names=>
 some (.agg (bK Client Seq E Value Version Names))
def Qt:GT:=bt 23 (nX DM) Vc
theorem NX:SG Qt:=kO Qs [] 16 [] [] [] Tryz.func23 (by kernel_rfl) (dP (λ_=>by kernel_rfl))
def mi (lA:MV):Option MV:=gL lA λpT=>
 bd (Loop (λfg=>
 Fo fg λout i=>
 aV pT λlen=>
 aW (decide (i<(len:Int))) (
 idx pT i λy=>
 gA y λcs=>
 cO cs λClient Seq E Value Version Names=>
 bd (DM (.agg (bK Client Seq E Value Version Names))) λrA=>
 gA rA λdU=>
 cO dU λbZ j9 E1 cC bF ke=>
 aV out λcX=>
 aV ([.agg (bK bZ j9 E1 cC bF ke)]:List MV) λdz=>
 bP (decide ((cX+dz) *72<=2^46))<|
 some (.inl [.list (out++([.agg (bK bZ j9 E1 cC bF ke)]:List MV)),.i .i64 (c9 .i64 (i+1))])) (
 some (.inr (2,[.list out])))) [.list ([]:List MV),.i .i64 0]) λp=>
 bP (sh p.1 2)<|
 gC p.2 λm14 DN=>
 gL m14 λjy=>
 gN DN<|
 some (.list jy)
def Gl:GT:=bt 33 (nX mi) Qt
theorem GW:SG Gl:=sn NX [] [] 21 [18] [] [] [] [] [] [(3,⟨[0],[],[(3,.sc (.own 5 61 true)),(4,.sc (.k (.i .i64)))],[(2,[(3,.sc (.own 5 61 true))])],[5]⟩)] [] Tryz.func33 (by kernel_rfl) (dP (λ_=>by kernel_rfl))
def Bk (a:MV):Option MV:=gA a λcs=>
 eT cs λch bT dD cn Seen=>
 bd (mi (.list Seen)) λrA=>
 gL rA λx=>
 bd (Loop (λka=>
 gC ka λm5 kG=>
 gL m5 λxs=>
 gC kG λm6 kb=>
 gI .i64 m6 λx1=>
 gC kb λm7 kc=>
 gL m7 λzy=>
 GV kc λJd x2 x3=>
 aV ch λlen=>
 aW (decide (x3<(len:Int))) (
 idx ch x3 λy=>
 gA y λdU=>
 gx dU λPath Value Version b5=>
 aV xs λcX=>
 aV ([.agg (fc Path Value Version b5)]:List MV) λdz=>
 bP (decide ((cX+dz) *48<=2^46))<|
 some (.inl (sM (xs++([.agg (fc Path Value Version b5)]:List MV)) x1 zy Jd x2 (c9 .i64 (x3+1))))) (
 some (.inr (2,(cm xs x1 zy Jd x2))))) (sM ([]:List MV) bT ([]:List MV) ([]:List MV) x 0)) λp=>
 bP (sh p.1 2)<|
 I7 .i64 p.2 λX8 x4 xs4 xs5 x5=>
 bd (Loop (λru=>
 gC ru λDO pq=>
 gL DO λxs6=>
 gC pq λK3 rv=>
 gI .i64 K3 λx6=>
 gC rv λTe DP=>
 gL Te λxs7=>
 GV DP λxs8 x7 x8=>
 aV dD λiR=>
 aW (decide (x8<(iR:Int))) (
 idx dD x8 λy1=>
 gA y1 λmQ=>
 xY mQ λId Span dX=>
 aV xs7 λkj=>
 aV ([.agg [.i .i64 Id,.i .i64 Span,.i .i64 dX]]:List MV) λuD=>
 bP (decide ((kj+uD) *24<=2^46))<|
 some (.inl (sM xs6 x6 (xs7++([.agg [.i .i64 Id,.i .i64 Span,.i .i64 dX]]:List MV)) xs8 x7 (c9 .i64 (x8+1))))) (
 some (.inr (4,(cm xs6 x6 xs7 xs8 x7))))) (sM X8 x4 xs4 xs5 x5 0)) λp1=>
 bP (sh p1.1 4)<|
 I7 .i64 p1.2 λxs9 x9 aip aiq qq=>
 bd (Loop (λDQ=>
 gC DQ λm34 tU=>
 gL m34 λaaG=>
 gC tU λm35 Al=>
 gI .i64 m35 λrW=>
 gC Al λm36 Am=>
 gL m36 λaee=>
 GV Am λaaH zw zx=>
 aV cn λCC=>
 aW (decide (zx<(CC:Int))) (
 idx cn zx λy2=>
 gA y2 λmE=>
 Ai mE λew Client Kids=>
 aV aaH λNY=>
 aV ([.agg [.s ew,.i .i64 Client,.b Kids]]:List MV) λapq=>
 bP (decide ((NY+apq) *32<=2^46))<|
 some (.inl (sM aaG rW aee (aaH++([.agg [.s ew,.i .i64 Client,.b Kids]]:List MV)) zw (c9 .i64 (zx+1))))) (
 some (.inr (6,(cm aaG rW aee aaH zw))))) (sM xs9 x9 aip aiq qq 0)) λp2=>
 bP (sh p2.1 6)<|
 I7 .i64 p2.2 λair CY apr aps Bh=>
 some (.agg (cm air CY apr aps Bh))
def Mo:GT:=bt 16 (nX Bk) Gl
theorem K4:SG Mo:=sn GW [] [] 105 [44,72,100] [] [] [(1,[0,1,2,3,4,5,6,7,8,9])] [] [] [(13,⟨[1,2],[3002000,3002002,3002003,3002004],[(3,.box [.own 3017000 124 true,.k (.i .i64),.own 3013001 127 true,.own 3017003 128 true,.k .l]),(8,.sc (.k (.i .i64)))],[(6,[(3,.box [.own 3017000 124 true,.k (.i .i64),.own 3013001 127 true,.own 3017003 128 true,.k .l])])],[3002000,3002002,3002003,3002004,3013001,3017000,3017003]⟩),(8,⟨[1,2],[3002000,3002002,3002003,3002004],[(3,.box [.own 3017000 124 true,.k (.i .i64),.own 3013001 127 true,.own 3017003 128 true,.k .l]),(6,.sc (.k (.i .i64)))],[(4,[(3,.box [.own 3017000 124 true,.k (.i .i64),.own 3013001 127 true,.own 3017003 128 true,.k .l])])],[3002000,3002002,3002003,3002004,3013001,3017000,3017003]⟩),(3,⟨[1,2],[3002000,3002002,3002003,3002004],[(3,.box [.own 3017000 124 true,.k (.i .i64),.own 3013001 127 true,.own 3017003 128 true,.k .l]),(4,.sc (.k (.i .i64)))],[(2,[(3,.box [.own 3017000 124 true,.k (.i .i64),.own 3013001 127 true,.own 3017003 128 true,.k .l])])],[3002000,3002002,3002003,3002004,3013001,3017000,3017003]⟩)] [] Tryz.func16 (by kernel_rfl) (dP (λ_=>by kernel_rfl))
def nL (o:MV):Option MV:=gA o λcs=>
 fE cs λClient Seq Kind Path Value Version Session Span=>
 aW (decide (Kind=1)) (
 some (.agg (cU Client Seq Kind Path Value 0 Session 0))) (
 bd (
 aW (decide (Kind=2)) (
 some (0,[.b (decide (Kind=2))])) (
 bd (
 aW (decide (Kind=5)) (
 some (0,[.b (decide (Kind=5))])) (
 bd (
 aW (decide (Kind=10)) (
 some (0,[.b (decide (Kind=10))])) (
 some (0,[.b (decide (Kind=11))]))) λp2=>
 bP (sh p2.1 0)<|
 gC p2.2 λm8 kc=>
 gB m8 λx=>
 gN kc<|
 some (0,[.b x]))) λp1=>
 bP (sh p1.1 0)<|
 gC p1.2 λm9 rX=>
 gB m9 λx1=>
 gN rX<|
 some (0,[.b x1]))) λp=>
 bP (sh p.1 0)<|
 gC p.2 λQo lc=>
 gB Qo λx2=>
 gN lc<|
 aW x2 (
 some (.agg (cU Client Seq Kind Path ([]:List UInt8) 0 0 0))) (
 aW (decide (Kind=3)) (
 some (.agg (cU Client Seq Kind Path Value Version 0 0))) (
 aW (decide (Kind=4)) (
 some (.agg (cU Client Seq Kind Path ([]:List UInt8) Version 0 0))) (
 aW (decide (Kind=6)) (
 some (.agg (cU Client Seq Kind ([]:List UInt8) ([]:List UInt8) 0 Session Span))) (
 bd (
 aW (decide (Kind=7)) (
 some (0,[.b (decide (Kind=7))])) (
 some (0,[.b (decide (Kind=8))]))) λp3=>
 bP (sh p3.1 0)<|
 gC p3.2 λTb wU=>
 gB Tb λx3=>
 gN wU<|
 aW x3 (
 some (.agg (cU Client Seq Kind ([]:List UInt8) ([]:List UInt8) 0 Session 0))) (
 aW (decide (Kind=9)) (
 some (.agg (cU Client Seq Kind ([]:List UInt8) ([]:List UInt8) 0 0 Span))) (
 some (.agg (cU Client Seq Kind ([]:List UInt8) ([]:List UInt8) 0 0 0)))))))))
def yV:GT:=bt 81 (nX nL) Mo
theorem BM:SG yV:=sn K4 [] [] 62 [] [34,36,49] [(1,[1])] [(14,[0,1,2,3,4,5,6,7,8,9,10,11]),(17,[0,1,2,3,4,5,6,7])] [] [(12,⟨[1,2,3,12],[],[],[(0,[(26,.sc (.k .b))])],[]⟩),(7,⟨[1,2,3,12],[],[],[(0,[(15,.sc (.k .b))])],[]⟩),(6,⟨[1,2,3,12],[],[],[(0,[(15,.sc (.k .b))])],[]⟩),(5,⟨[1,2,3,12],[],[],[(0,[(15,.sc (.k .b))])],[]⟩)] [] [] Tryz.func81 (by kernel_rfl) (dP (λ_=>by kernel_rfl))
def Bl (o:MV):Option MV:=gA o λcs=>
 fE cs λClient Seq Kind Path Value Version Session Span=>
 bd (
 aW (decide ((0:Int)<=Client)) (
 aW (decide (Client<=1000)) (
 aW (decide ((1:Int)<=Seq)) (
 some [.b (decide (Seq<=1000000000))]) (
 some [.b false])) (
 some [.b false])) (
 some [.b false])) λvs=>
 gC vs λm8 kc=>
 gB m8 λwho=>
 gN kc<|
 bd (
 aW who (
 aW (decide ((0:Int)<=Kind)) (
 aW (decide (Kind<=11)) (
 aW (decide ((Path.length:Int)<=100)) (
 aW (decide ((Value.length:Int)<=1000)) (
 bd (nL (.agg (cU Client Seq Kind Path Value Version Session Span))) λrA=>
 gA rA λdU=>
 fE dU λbZ j9 Gj ew cC bF Aj pU=>
 some [.b ((decide (Client=bZ))&&((decide (Seq=j9))&&((decide (Kind=Gj))&&((decide (Path=ew))&&((decide (Value=cC))&&((decide (Version=bF))&&((decide (Session=Aj))&&(decide (Span=pU)))))))))]) (
 some [.b false])) (
 some [.b false])) (
 some [.b false])) (
 some [.b false])) (
 some [.b false])) λjJ=>
 gC jJ λTc DR=>
 gB Tc λx=>
 gN DR<|
 some (.b x)
def Mp:GT:=bt 35 (nX Bl) yV
theorem K5:SG Mp:=sn BM [] [] 51 [] [] [] [(2,[0,1,2,3,4,5,6,7,8,9,10,11,12,13,14,15,16,17,18,19,20,21,22,23,24,25,26,27,28,29])] [(2,⟨[1,3],[],[],[(0,[(2,.sc (.k .b))])],[]⟩),(1,⟨[1],[],[],[(0,[(3,.sc (.k .b))])],[]⟩)] [] [] [] Tryz.func35 (by kernel_rfl) (dP (λ_=>by kernel_rfl))
def pu (x:MV):Option MV:=gI .i64 x λx1=>some (.b (!decide (x1=x1)))
def DS:GT:=bt 183 (nX pu) Mp
theorem Fp:SG DS:=kO K5 [] 6 [] [] [] Tryz.func183 (by kernel_rfl) (dP (λ_=>by kernel_rfl))
def mj (x y:MV):Option MV:=gI .i64 x λx1=>
 gI .i64 y λy1=>
 bd (pu (.i .i64 x1)) λrA=>
 gB rA λx2=>
 bd (pu (.i .i64 y1)) λaT=>
 gB aT λx3=>
 aW x2 (
 aW x3 (
 some (.i .i64 0)) (
 some (.i .i64 (-1)))) (
 aW x3 (
 some (.i .i64 1)) (
 aW (decide (x1<y1)) (
 some (.i .i64 (-1))) (
 aW (decide (y1<x1)) (
 some (.i .i64 1)) (
 some (.i .i64 0)))))
def An:GT:=bt 121 (dy mj) DS
theorem CD:SG An:=kO Fp [] 20 [] [] [] Tryz.func121 (by kernel_rfl) (bg (λ_ _=>by kernel_rfl))
def kH (x dK:MV):Option MV:=gA x λcs=>
 cO cs λClient Seq E Value Version Names=>
 gI .i64 dK λya=>
 bd (mj (.i .i64 Client) (.i .i64 ya)) λrA=>
 gI .i64 rA λx1=>
 some (.i .i64 x1)
def n7:GT:=bt 120 (dy kH) An
theorem yb:SG n7:=kO CD [] 9 [] [] [] Tryz.func120 (by kernel_rfl) (bg (λ_ _=>by kernel_rfl))
def db:GT:=n7
theorem ik (x0 x1:MV):db 120 [x0,x1]=kH x0 x1:=by kernel_rfl
def du (x target cmp:MV):Option MV:=gL x λx1=>
 gI .i64 target λve=>
 gR cmp λQu=>
 aV x1 λlen=>
 bd (Loop (λfg=>
 jII fg λi j=>
 aW (decide (i<j)) (
 bP (decide ((0:Int)<=1))<|
 idx x1 (c9 .i64 (IT (c9 .u64 (c9 .i64 (i+j))) (2^min (AI 1) (IN .u64)))) λy=>
 gA y λcs=>
 cO cs λClient Seq E Value Version Names=>
 RX Qu λfn cap=>
 bP (!gv fn)<|
 bd (db fn ([.agg (bK Client Seq E Value Version Names),.i .i64 ve]++cap)) λrA=>
 gI .i64 rA λx2=>
 bd (
 aW (decide (x2<0)) (
 some (0,[.i .i64 (c9 .i64 ((c9 .i64 (IT (c9 .u64 (c9 .i64 (i+j))) (2^min (AI 1) (IN .u64))))+1)),.i .i64 j])) (
 some (0,[.i .i64 i,.i .i64 (c9 .i64 (IT (c9 .u64 (c9 .i64 (i+j))) (2^min (AI 1) (IN .u64))))]))) λp1=>
 bP (sh p1.1 0)<|
 oII .i64 .i64 p1.2 λi1 j1=>
 some (.inl [.i .i64 i1,.i .i64 j1])) (
 some (.inr (2,[.i .i64 i])))) [.i .i64 0,.i .i64 (len:Int)]) λp=>
 bP (sh p.1 2)<|
 gC p.2 λQo wU=>
 gI .i64 Qo λi2=>
 gN wU<|
 bd (
 aW (decide (i2<(len:Int))) (
 idx x1 i2 λy1=>
 gA y1 λdU=>
 cO dU λbZ j9 E1 cC bF ke=>
 RX Qu λCZ uE=>
 bP (!gv CZ)<|
 bd (db CZ ([.agg (bK bZ j9 E1 cC bF ke),.i .i64 ve]++uE)) λaT=>
 gI .i64 aT λx3=>
 some [.i .i64 i2,.b (decide (x3=0))]) (
 some [.i .i64 i2,.b false])) λvs=>
 U5 vs λx4 x5=>
 some (.cg [.i .i64 x4,.b x5])
def im:GT:=bt 119 (GS du) n7
theorem lr:SG im:=kO yb [] 49 [(8,⟨[0,1,2,8,9],[],[],[(0,[(6,.sc (.k (.i .i64))),(7,.sc (.k .b))])],[]⟩)] [(6,⟨[0,1,2,8,11],[],[],[(0,[(9,.sc (.k (.i .i64))),(10,.sc (.k (.i .i64)))])],[]⟩)] [(3,⟨[0,1,2,8],[],[(9,.sc (.k (.i .i64))),(10,.sc (.k (.i .i64)))],[(2,[(9,.sc (.k (.i .i64)))])],[]⟩)] Tryz.func119 (by kernel_rfl) (qN (λ_ _ _=>by kernel_rfl))
def kf (rA dK:MV):Option MV:=gA rA λcs=>
 eT cs λch bT dD cn Seen=>
 gI .i64 dK λya=>
 bd (du (.list Seen) (.i .i64 ya) (.func 120 [])) λaT=>
 gT aT λvs=>
 U5 vs λx x1=>
 some (.cg [.i .i64 x,.b x1])
def wV:GT:=bt 62 (dy kf) im
theorem Ao:SG wV:=kO lr [] 12 [] [] [] Tryz.func62 (by kernel_rfl) (bg (λ_ _=>by kernel_rfl))
def tV (rA dK:MV):Option MV:=gA rA λcs=>
 eT cs λch bT dD cn Seen=>
 gI .i64 dK λya=>
 bd (kf (.agg (cm ch bT dD cn Seen)) (.i .i64 ya)) λaT=>
 gT aT λvs=>
 U5 vs λx x1=>
 aW (!x1) (
 some (.cg [.agg (bK 0 0 0 ([]:List UInt8) 0 ([]:List MV)),.b false])) (
 idx Seen x λy=>
 gA y λdU=>
 cO dU λClient Seq E Value Version Names=>
 some (.cg [.agg (bK Client Seq E Value Version Names),.b true]))
def Je:GT:=bt 36 (dy tV) wV
theorem Jf:SG Je:=kO Ao [] 22 [] [] [] Tryz.func36 (by kernel_rfl) (bg (λ_ _=>by kernel_rfl))
def mK (rA o:MV):Option MV:=gA rA λcs=>
 eT cs λch bT dD cn Seen=>
 gA o λdU=>
 fE dU λClient Seq Kind Path Value Version Session Span=>
 bd (tV (.agg (cm ch bT dD cn Seen)) (.i .i64 Client)) λaT=>
 gT aT λvs=>
 gC vs λQp wW=>
 gA Qp λmQ=>
 cO mQ λbZ j9 E cC bF Names=>
 gC wW λDO jz=>
 gB DO λx=>
 gN jz<|
 bd (Bl (.agg (cU Client Seq Kind Path Value Version Session Span))) λcf=>
 gB cf λx1=>
 bd (
 aW (!x1) (
 some (0,[.i .i64 0,.i .i64 0,.i .i64 0,.s ([]:List UInt8),.i .i64 0,.list ([]:List MV),.i .i64 Client,.i .i64 Seq,.i .i64 1,.s ([]:List UInt8),.i .i64 0,.list ([]:List MV)])) (
 bd (
 aW x (
 some [.b (decide (j9=Seq))]) (
 some [.b false])) λjJ=>
 gC jJ λK3 ru=>
 gB K3 λx2=>
 gN ru<|
 aW x2 (
 some (1,[.i .i64 bZ,.i .i64 j9,.i .i64 E,.s cC,.i .i64 bF,.list Names,.b true])) (
 bd (
 aW x (
 some [.b (decide (Seq<j9))]) (
 some [.b false])) λpP=>
 gC pP λTe pq=>
 gB Te λx3=>
 gN pq<|
 bd (
 aW x3 (
 some (0,[.i .i64 0,.i .i64 0,.i .i64 0,.s ([]:List UInt8),.i .i64 0,.list ([]:List MV),.i .i64 Client,.i .i64 Seq,.i .i64 15,.s ([]:List UInt8),.i .i64 0,.list ([]:List MV)])) (
 bd (
 aW (!x) (
 aV Seen λlen=>
 some [.b (decide ((50:Int)<=(len:Int)))]) (
 some [.b false])) λWY=>
 gC WY λNZ rv=>
 gB NZ λx4=>
 gN rv<|
 aW x4 (
 some (0,[.i .i64 0,.i .i64 0,.i .i64 0,.s ([]:List UInt8),.i .i64 0,.list ([]:List MV),.i .i64 Client,.i .i64 Seq,.i .i64 9,.s ([]:List UInt8),.i .i64 0,.list ([]:List MV)])) (
 some (1,[.i .i64 Client,.i .i64 Seq,.i .i64 0,.s ([]:List UInt8),.i .i64 0,.list ([]:List MV),.b false])))) λp1=>
 aW (sh p1.1 0) (
 gC p1.2 λm24 DP=>
 gI .i64 m24 λx5=>
 gC DP λm25 Jg=>
 gI .i64 m25 λx6=>
 gC Jg λm26 Qv=>
 gI .i64 m26 λx7=>
 gC Qv λm27 aaI=>
 gS m27 λx8=>
 gC aaI λm28 DT=>
 gI .i64 m28 λx9=>
 gC DT λm29 al2=>
 gL m29 λqq=>
 cO al2 λrW zw zx CY Bh DF=>
 some (0,[.i .i64 x5,.i .i64 x6,.i .i64 x7,.s x8,.i .i64 x9,.list qq,.i .i64 rW,.i .i64 zw,.i .i64 zx,.s CY,.i .i64 Bh,.list DF])) (
 bP (sh p1.1 1)<|
 gC p1.2 λm36 DQ=>
 gI .i64 m36 λDG=>
 gC DQ λm37 tU=>
 gI .i64 m37 λDH=>
 gC tU λm38 Al=>
 gI .i64 m38 λFm=>
 gC Al λm39 Am=>
 gS m39 λMq=>
 gC Am λm40 DU=>
 gI .i64 m40 λO8=>
 O6 DU λVd x23=>
 some (1,[.i .i64 DG,.i .i64 DH,.i .i64 Fm,.s Mq,.i .i64 O8,.list Vd,.b x23]))))) λp=>
 aW (sh p.1 0) (
 gC p.2 λm43 Jh=>
 gI .i64 m43 λx24=>
 gC Jh λm44 aaM=>
 gI .i64 m44 λx25=>
 gC aaM λm45 Qw=>
 gI .i64 m45 λx26=>
 gC Qw λm46 aaN=>
 gS m46 λx27=>
 gC aaN λm47 aaO=>
 gI .i64 m47 λx28=>
 gC aaO λm48 Qx=>
 gL m48 λx29=>
 cO Qx λx30 x31 x32 x33 x34 x35=>
 some (.cg [.agg (bK x30 x31 x32 x33 x34 x35),.b true])) (
 bP (sh p.1 1)<|
 gC p.2 λm55 al6=>
 gI .i64 m55 λx36=>
 gC al6 λm56 al7=>
 gI .i64 m56 λx37=>
 gC al7 λm57 aaP=>
 gI .i64 m57 λx38=>
 gC aaP λm58 aaQ=>
 gS m58 λx39=>
 gC aaQ λm59 aaR=>
 gI .i64 m59 λx40=>
 O6 aaR λx41 x42=>
 some (.cg [.agg (bK x36 x37 x38 x39 x40 x41),.b x42]))
def wX:GT:=bt 58 (dy mK) Je
theorem Ap:SG wX:=kO Jf [] 58 [(10,⟨[2,4,6,8],[],[],[(0,[(47,.sc (.k .b))])],[]⟩),(8,⟨[2,3,4,6,7,8],[],[],[(0,[(37,.sc (.k .b))])],[]⟩),(6,⟨[2,3,4,6,7,8],[],[],[(0,[(27,.sc (.k .b))])],[]⟩)] [(9,⟨[2,8],[],[],[(0,[(4,.box [.k (.i .i64),.k (.i .i64),.k (.i .i64),.k .s,.k (.i .i64),.k .l]),(6,.box [.k (.i .i64),.k (.i .i64),.k (.i .i64),.k .s,.k (.i .i64),.k .l])]),(1,[(4,.box [.k (.i .i64),.k (.i .i64),.k (.i .i64),.k .s,.k (.i .i64),.k .l]),(5,.sc (.k .b))])],[]⟩),(5,⟨[2,3,7,8],[],[],[(0,[(4,.box [.k (.i .i64),.k (.i .i64),.k (.i .i64),.k .s,.k (.i .i64),.k .l]),(6,.box [.k (.i .i64),.k (.i .i64),.k (.i .i64),.k .s,.k (.i .i64),.k .l])]),(1,[(4,.box [.k (.i .i64),.k (.i .i64),.k (.i .i64),.k .s,.k (.i .i64),.k .l]),(5,.sc (.k .b))])],[]⟩)] [] Tryz.func58 (by kernel_rfl) (bg (λ_ _=>by kernel_rfl))
def kI (w:List MV):Option MV:=a8 w λdj cK eO dF jf dv nw iq fe ek cv cb gU dk mL xE eA cL eB lA=>some (.fb (.cg []) (aB dj cK eO dF jf dv nw iq fe ek cv cb gU dk mL xE eA cL eB lA))
def tW:GT:=bt 105 (WX kI) wX
theorem yc:SG tW:=RV Ap 0 kp [] [(0,1000000)] 2 [] [] [] [] [] [] [] [] Tryz.func105 (by kernel_rfl) (by kernel_rfl) (tT λ_=>by kernel_rfl)
def lD (x id:MV):Option MV:=gA x λcs=>
 xY cs λId Span dX=>
 gI .i64 id λHv=>
 bd (mj (.i .i64 Id) (.i .i64 Hv)) λrA=>
 gI .i64 rA λx1=>
 some (.i .i64 x1)
def pv:GT:=bt 144 (dy lD) tW
theorem zi:SG pv:=kO yc [] 9 [] [] [] Tryz.func144 (by kernel_rfl) (bg (λ_ _=>by kernel_rfl))
def cS:GT:=pv
theorem gM (x0 x1:MV):cS 144 [x0,x1]=lD x0 x1:=by kernel_rfl
def dc (x target cmp:MV):Option MV:=gL x λx1=>
 gI .i64 target λve=>
 gR cmp λQu=>
 aV x1 λlen=>
 bd (Loop (λfg=>
 jII fg λi j=>
 aW (decide (i<j)) (
 bP (decide ((0:Int)<=1))<|
 idx x1 (c9 .i64 (IT (c9 .u64 (c9 .i64 (i+j))) (2^min (AI 1) (IN .u64)))) λy=>
 gA y λcs=>
 xY cs λId Span dX=>
 RX Qu λfn cap=>
 bP (!gv fn)<|
 bd (cS fn ([.agg [.i .i64 Id,.i .i64 Span,.i .i64 dX],.i .i64 ve]++cap)) λrA=>
 gI .i64 rA λx2=>
 bd (
 aW (decide (x2<0)) (
 some (0,[.i .i64 (c9 .i64 ((c9 .i64 (IT (c9 .u64 (c9 .i64 (i+j))) (2^min (AI 1) (IN .u64))))+1)),.i .i64 j])) (
 some (0,[.i .i64 i,.i .i64 (c9 .i64 (IT (c9 .u64 (c9 .i64 (i+j))) (2^min (AI 1) (IN .u64))))]))) λp1=>
 bP (sh p1.1 0)<|
 oII .i64 .i64 p1.2 λi1 j1=>
 some (.inl [.i .i64 i1,.i .i64 j1])) (
 some (.inr (2,[.i .i64 i])))) [.i .i64 0,.i .i64 (len:Int)]) λp=>
 bP (sh p.1 2)<|
 gC p.2 λm7 kc=>
 gI .i64 m7 λi2=>
 gN kc<|
 bd (
 aW (decide (i2<(len:Int))) (
 idx x1 i2 λy1=>
 gA y1 λdU=>
 xY dU λVe pU tX=>
 RX Qu λCZ uE=>
 bP (!gv CZ)<|
 bd (cS CZ ([.agg [.i .i64 Ve,.i .i64 pU,.i .i64 tX],.i .i64 ve]++uE)) λaT=>
 gI .i64 aT λx3=>
 some [.i .i64 i2,.b (decide (x3=0))]) (
 some [.i .i64 i2,.b false])) λvs=>
 U5 vs λx4 x5=>
 some (.cg [.i .i64 x4,.b x5])
def gy:GT:=bt 143 (GS dc) pv
theorem kJ:SG gy:=kO zi [] 49 [(8,⟨[0,1,2,8,9],[],[],[(0,[(6,.sc (.k (.i .i64))),(7,.sc (.k .b))])],[]⟩)] [(6,⟨[0,1,2,8,11],[],[],[(0,[(9,.sc (.k (.i .i64))),(10,.sc (.k (.i .i64)))])],[]⟩)] [(3,⟨[0,1,2,8],[],[(9,.sc (.k (.i .i64))),(10,.sc (.k (.i .i64)))],[(2,[(9,.sc (.k (.i .i64)))])],[]⟩)] Tryz.func143 (by kernel_rfl) (qN (λ_ _ _=>by kernel_rfl))
def il (b id:MV):Option MV:=gA b λcs=>
 I8 cs λcI L=>
 gI .i64 id λHv=>
 bd (dc (.list L) (.i .i64 Hv) (.func 144 [])) λrA=>
 gT rA λvs=>
 U5 vs λx x1=>
 some (.cg [.i .i64 x,.b x1])
def yW:GT:=bt 82 (dy il) gy
theorem BN:SG yW:=kO kJ [] 12 [] [] [] Tryz.func82 (by kernel_rfl) (bg (λ_ _=>by kernel_rfl))
def Bm (b id:MV):Option MV:=gA b λcs=>
 I8 cs λcI L=>
 gI .i64 id λHv=>
 bd (il (.agg [.i .i64 cI,.list L]) (.i .i64 Hv)) λrA=>
 gT rA λvs=>
 U5 vs λx x1=>
 some (.b x1)
def Mr:GT:=bt 37 (dy Bm) yW
theorem K6:SG Mr:=kO BN [] 14 [] [] [] Tryz.func37 (by kernel_rfl) (bg (λ_ _=>by kernel_rfl))
def ja (sA dR:MV):Option MV:=gS sA λkZ=>
 gS dR λlf=>
 bd (
 aW (decide ((lf.length:Int)<=(kZ.length:Int))) (
 bP (decide ((0:Int)<=0/\(0:Int)<=(lf.length:Int)/\(lf.length:Int)<=(kZ.length:Int)))<|
 some [.b (decide ((By (AI 0) (BY (AI (lf.length:Int)) kZ))=lf))]) (
 some [.b false])) λvs=>
 gC vs λm fg=>
 gB m λx=>
 gN fg<|
 some (.b x)
def pV:GT:=bt 251 (dy ja) Mr
theorem uF:SG pV:=kO K6 [] 18 [(1,⟨[0,1],[],[],[(0,[(4,.sc (.k .b))])],[]⟩)] [] [] Tryz.func251 (by kernel_rfl) (bg (λ_ _=>by kernel_rfl))
def jb (sA dR:MV):Option MV:=gS sA λkZ=>
 gS dR λlf=>
 bd (ja (.s kZ) (.s lf)) λrA=>
 gB rA λx=>
 aW (!x) (
 some (.cg [.s kZ,.b false])) (
 bP (decide ((0:Int)<=(lf.length:Int)/\(lf.length:Int)<=(kZ.length:Int)/\(kZ.length:Int)<=(kZ.length:Int)))<|
 some (.cg [.s (By (AI (lf.length:Int)) (BY (AI (kZ.length:Int)) kZ)),.b true]))
def pW:GT:=bt 232 (dy jb) pV
theorem uG:SG pW:=kO uF [] 15 [] [] [] Tryz.func232 (by kernel_rfl) (bg (λ_ _=>by kernel_rfl))
def lE (sA dR:MV):Option MV:=gS sA λkZ=>
 gS dR λlf=>
 bd (jb (.s kZ) (.s lf)) λrA=>
 gT rA λvs=>
 gC vs λm fg=>
 gS m λx=>
 gC fg λm1 eg=>
 gB m1 λx1=>
 gN eg<|
 some (.cg [.s x,.b x1])
def vf:GT:=bt 193 (dy lE) pW
theorem zj:SG vf:=kO uG [] 11 [] [] [] Tryz.func193 (by kernel_rfl) (bg (λ_ _=>by kernel_rfl))
def qQ (c:MV):Option MV:=gI .i32 c λc1=>
 bd (tk [.s ([97,98,99,100,101,102,103,104,105,106,107,108,109,110,111,112,113,114,115,116,117,118,119,120,121,122,48,49,50,51,52,53,54,55,56,57,45,95]:List UInt8),.i .i32 c1]) λrA=>
 gB rA λx=>
 some (.b (!x))
def vP:GT:=bt 237 (nX qQ) vf
theorem DV:SG vP:=kO zj [] 6 [] [] [] Tryz.func237 (by kernel_rfl) (dP (λ_=>by kernel_rfl))
def jA:GT:=vP
theorem rY (x0:MV):jA 237 [x0]=qQ x0:=by kernel_rfl
def nM (sA f Gf:MV):Option MV:=gS sA λkZ=>
 gR f λf1=>
 gB Gf λaiw=>
 bd (Loop (λfg=>
 gC fg λm eg=>
 gL m λes=>
 gN eg<|
 aW (KF es) (
 RX f1 λfn cap=>
 bP (!gv fn)<|
 bd (jA fn ([.i .i32 (zD es)]++cap)) λrA=>
 gB rA λx=>
 aW (decide (x=aiw)) (
 some (.inr (1,[.i .i64 (se es)]))) (
 some (.inl [.list (Cj es)]))) (
 some (.inr (2,[])))) [.list ([.s kZ,.i .i64 0]:List MV)]) λp=>
 aW (sh p.1 2) (
 gN p.2<|
 some (.i .i64 (-1))) (
 bP (sh p.1 1)<|
 gC p.2 λm1 jg=>
 gI .i64 m1 λx1=>
 gN jg<|
 some (.i .i64 x1))
def yX:GT:=bt 275 (GS nM) vP
theorem BO:SG yX:=kO DV [] 21 [] [] [(2,⟨[1,2],[],[(10,.mp ⟨true,[],true⟩)],[(1,[(6,.sc (.k (.i .i64)))]),(2,[])],[]⟩)] Tryz.func275 (by kernel_rfl) (qN (λ_ _ _=>by kernel_rfl))
def lF (sA f:MV):Option MV:=gS sA λkZ=>
 gR f λf1=>
 bd (nM (.s kZ) f1 (.b true)) λrA=>
 gI .i64 rA λx=>
 some (.i .i64 x)
def vg:GT:=bt 262 (dy lF) yX
theorem zk:SG vg:=kO BO [] 8 [] [] [] Tryz.func262 (by kernel_rfl) (bg (λ_ _=>by kernel_rfl))
def jB (sA f:MV):Option MV:=gS sA λkZ=>
 gR f λf1=>
 bd (lF (.s kZ) f1) λrA=>
 gI .i64 rA λx=>
 some (.b (decide ((0:Int)<=x)))
def rz:GT:=bt 236 (dy jB) vg
theorem vQ:SG rz:=kO zk [] 9 [] [] [] Tryz.func236 (by kernel_rfl) (bg (λ_ _=>by kernel_rfl))
def vh (sA:MV):Option MV:=gS sA λkZ=>
 bd (
 aW (!decide (kZ=([]:List UInt8))) (
 aW (decide ((kZ.length:Int)<=30)) (
 bd (IY [.s kZ,.s ([97,98,99,100,101,102,103,104,105,106,107,108,109,110,111,112,113,114,115,116,117,118,119,120,121,122,48,49,50,51,52,53,54,55,56,57,45,95]:List UInt8)]) λrA=>
 gS rA λx=>
 aW (decide (x=([]:List UInt8))) (
 bd (jB (.s kZ) (.func 237 [])) λaT=>
 gB aT λx1=>
 some [.b (!x1)]) (
 some [.b false])) (
 some [.b false])) (
 some [.b false])) λvs=>
 gC vs λm fg=>
 gB m λx2=>
 gN fg<|
 some (.b x2)
def Gm:GT:=bt 197 (nX vh) rz
theorem GX:SG Gm:=kO vQ [] 20 [(1,⟨[0],[],[],[(0,[(2,.sc (.k .b))])],[]⟩)] [] [] Tryz.func197 (by kernel_rfl) (dP (λ_=>by kernel_rfl))
def sN (sA:MV):Option MV:=gS sA λkZ=>
 bd (vh (.s kZ)) λrA=>
 gB rA λx=>
 some (.b (!x))
def yd:GT:=bt 196 (nX sN) Gm
theorem Fq:SG yd:=kO GX [] 6 [] [] [] Tryz.func196 (by kernel_rfl) (dP (λ_=>by kernel_rfl))
def fW:GT:=yd
theorem n8 (x0:MV):fW 196 [x0]=sN x0:=by kernel_rfl
def iA (sA f:MV):Option MV:=gL sA λkZ=>
 gR f λf1=>
 aV kZ λlen=>
 bd (Loop (λfg=>
 gC fg λm eg=>
 gI .i64 m λx=>
 gN eg<|
 aW (decide (x<(len:Int))) (
 idx kZ x λy=>
 gS y λx1=>
 RX f1 λfn cap=>
 bP (!gv fn)<|
 bd (fW fn ([.s x1]++cap)) λrA=>
 gB rA λx2=>
 aW x2 (
 some (.inr (1,[.i .i64 x]))) (
 some (.inl [.i .i64 (c9 .i64 (x+1))]))) (
 some (.inr (2,[])))) [.i .i64 0]) λp=>
 aW (sh p.1 2) (
 gN p.2<|
 some (.i .i64 (-1))) (
 bP (sh p.1 1)<|
 gC p.2 λm1 jg=>
 gI .i64 m1 λx3=>
 gN jg<|
 some (.i .i64 x3))
def pw:GT:=bt 234 (dy iA) yd
theorem tY:SG pw:=kO Fq [] 19 [] [] [(2,⟨[0,1,7],[],[(8,.sc (.k (.i .i64)))],[(1,[(4,.sc (.k (.i .i64)))]),(2,[])],[]⟩)] Tryz.func234 (by kernel_rfl) (bg (λ_ _=>by kernel_rfl))
def fK (sA f:MV):Option MV:=gL sA λkZ=>
 gR f λf1=>
 bd (iA (.list kZ) f1) λrA=>
 gI .i64 rA λx=>
 some (.b (decide ((0:Int)<=x)))
def mU:GT:=bt 195 (dy fK) pw
theorem rB:SG mU:=kO tY [] 9 [] [] [] Tryz.func195 (by kernel_rfl) (bg (λ_ _=>by kernel_rfl))
def kK (p:MV):Option MV:=gS p λp1=>
 bd (lE (.s p1) (.s ([47]:List UInt8))) λrA=>
 gT rA λvs=>
 gC vs λm fg=>
 gS m λx=>
 gC fg λm1 eg=>
 gB m1 λx1=>
 gN eg<|
 bd (
 aW (!x1) (
 some [.b true]) (
 some [.b (decide ((100:Int)<(p1.length:Int)))])) λjJ=>
 gC jJ λm2 jg=>
 gB m2 λx2=>
 gN jg<|
 aW x2 (
 some (.cg [.list ([]:List MV),.b false])) (
 aW (decide (x=([]:List UInt8))) (
 some (.cg [.list ([]:List MV),.b true])) (
 bd (zY [.s x,.s ([47]:List UInt8)]) λaT=>
 gF aT λxs=>
 bd (
 aV xs λlen=>
 aW (decide ((len:Int)<=8)) (
 bd (fK (.list xs) (.func 196 [])) λcf=>
 gB cf λx3=>
 some [.list xs,.b (!x3),.list xs]) (
 some [.list xs,.b false,.list xs])) λpP=>
 gC pP λm3 nd=>
 gL m3 λzy=>
 gC nd λm4 n6=>
 gB m4 λx4=>
 gC n6 λm5 ka=>
 gL m5 λlA=>
 gN ka<|
 some (.cg [.list lA,.b x4])))
def Ji:GT:=bt 137 (nX kK) mU
theorem Jj:SG Ji:=kO rB [] 34 [(7,⟨[],[],[],[(0,[(2,.sc (.own 24 9 true)),(3,.sc (.k .b)),(6,.sc (.own 24 9 true))])],[24]⟩),(2,⟨[0,4,5],[],[],[(0,[(12,.sc (.k .b))])],[24]⟩)] [] [] Tryz.func137 (by kernel_rfl) (dP (λ_=>by kernel_rfl))
def lg (x:MV):Option MV:=gS x λx1=>some (.b (!decide (x1=x1)))
def yY:GT:=bt 264 (nX lg) Ji
theorem BP:SG yY:=kO Jj [] 6 [] [] [] Tryz.func264 (by kernel_rfl) (dP (λ_=>by kernel_rfl))
def lG (x y:MV):Option MV:=gS x λx1=>
 gS y λy1=>
 bd (lg (.s x1)) λrA=>
 gB rA λx2=>
 bd (lg (.s y1)) λaT=>
 gB aT λx3=>
 aW x2 (
 aW x3 (
 some (.i .i64 0)) (
 some (.i .i64 (-1)))) (
 aW x3 (
 some (.i .i64 1)) (
 aW (OF x1 y1) (
 some (.i .i64 (-1))) (
 aW (!(OF x1 y1||decide (x1=y1))) (
 some (.i .i64 1)) (
 some (.i .i64 0)))))
def vi:GT:=bt 240 (dy lG) yY
theorem zl:SG vi:=kO BP [] 20 [] [] [] Tryz.func240 (by kernel_rfl) (bg (λ_ _=>by kernel_rfl))
def jC (s1 s2:MV):Option MV:=gL s1 λtZ=>
 gL s2 λzm=>
 aV tZ λlen=>
 bd (Loop (λfg=>
 gC fg λm eg=>
 gI .i64 m λx=>
 gN eg<|
 aW (decide (x<(len:Int))) (
 idx tZ x λy=>
 gS y λx1=>
 aV zm λcX=>
 aW (decide ((cX:Int)<=x)) (
 some (.inr (1,[.i .i64 1]))) (
 idx zm x λy1=>
 gS y1 λx2=>
 bd (lG (.s x1) (.s x2)) λrA=>
 gI .i64 rA λx3=>
 aW (!decide (x3=0)) (
 some (.inr (1,[.i .i64 x3]))) (
 some (.inl [.i .i64 (c9 .i64 (x+1))])))) (
 some (.inr (2,[])))) [.i .i64 0]) λp=>
 aW (sh p.1 2) (
 gN p.2<|
 aV tZ λdz=>
 aV zm λiR=>
 aW (decide ((dz:Int)<(iR:Int))) (
 some (.i .i64 (-1))) (
 some (.i .i64 0))) (
 bP (sh p.1 1)<|
 gC p.2 λm1 jg=>
 gI .i64 m1 λx4=>
 gN jg<|
 some (.i .i64 x4))
def rC:GT:=bt 202 (dy jC) vi
theorem vR:SG rC:=kO zl [] 36 [] [] [(2,⟨[0,1,9,10],[],[(11,.sc (.k (.i .i64)))],[(1,[(4,.sc (.k (.i .i64)))]),(2,[])],[]⟩)] Tryz.func202 (by kernel_rfl) (bg (λ_ _=>by kernel_rfl))
def ye (p q:MV):Option MV:=gS p λp1=>
 gS q λq1=>
 bd (kK (.s p1)) λrA=>
 gT rA λvs=>
 O6 vs λx x1=>
 bd (kK (.s q1)) λaT=>
 gT aT λjJ=>
 O6 jJ λx2 x3=>
 bd (
 aW x1 (
 aW x3 (
 bd (jC (.list x) (.list x2)) λcf=>
 gI .i64 cf λx4=>
 some [.b (decide (x4<0))]) (
 some [.b false])) (
 some [.b false])) λpP=>
 gC pP λm4 n6=>
 gB m4 λx5=>
 gN n6<|
 some (.b x5)
def Jk:GT:=bt 146 (dy ye) rC
theorem Jl:SG Jk:=kO vR [] 29 [(3,⟨[5,6,7,8],[],[],[(0,[(4,.sc (.k .b))])],[]⟩)] [] [] Tryz.func146 (by kernel_rfl) (bg (λ_ _=>by kernel_rfl))
def kL (n p:MV):Option MV:=gA n λcs=>
 gx cs λPath Value Version b5=>
 gS p λp1=>
 aW (decide (Path=p1)) (
 some (.i .i64 0)) (
 bd (ye (.s Path) (.s p1)) λrA=>
 gB rA λx=>
 aW x (
 some (.i .i64 (-1))) (
 some (.i .i64 1)))
def n9:GT:=bt 245 (dy kL) Jk
theorem yf:SG n9:=kO Jl [] 15 [] [] [] Tryz.func245 (by kernel_rfl) (bg (λ_ _=>by kernel_rfl))
def cT:GT:=n9
theorem gz (x0 x1:MV):cT 245 [x0,x1]=kL x0 x1:=by kernel_rfl
def df (x target cmp:MV):Option MV:=gL x λx1=>
 gS target λve=>
 gR cmp λQu=>
 aV x1 λlen=>
 bd (Loop (λfg=>
 jII fg λi j=>
 aW (decide (i<j)) (
 bP (decide ((0:Int)<=1))<|
 idx x1 (c9 .i64 (IT (c9 .u64 (c9 .i64 (i+j))) (2^min (AI 1) (IN .u64)))) λy=>
 gA y λcs=>
 gx cs λPath Value Version b5=>
 RX Qu λfn cap=>
 bP (!gv fn)<|
 bd (cT fn ([.agg (fc Path Value Version b5),.s ve]++cap)) λrA=>
 gI .i64 rA λx2=>
 bd (
 aW (decide (x2<0)) (
 some (0,[.i .i64 (c9 .i64 ((c9 .i64 (IT (c9 .u64 (c9 .i64 (i+j))) (2^min (AI 1) (IN .u64))))+1)),.i .i64 j])) (
 some (0,[.i .i64 i,.i .i64 (c9 .i64 (IT (c9 .u64 (c9 .i64 (i+j))) (2^min (AI 1) (IN .u64))))]))) λp1=>
 bP (sh p1.1 0)<|
 oII .i64 .i64 p1.2 λi1 j1=>
 some (.inl [.i .i64 i1,.i .i64 j1])) (
 some (.inr (2,[.i .i64 i])))) [.i .i64 0,.i .i64 (len:Int)]) λp=>
 bP (sh p.1 2)<|
 gC p.2 λm8 rX=>
 gI .i64 m8 λi2=>
 gN rX<|
 bd (
 aW (decide (i2<(len:Int))) (
 idx x1 i2 λy1=>
 gA y1 λdU=>
 gx dU λew cC bF rZ=>
 RX Qu λCZ uE=>
 bP (!gv CZ)<|
 bd (cT CZ ([.agg (fc ew cC bF rZ),.s ve]++uE)) λaT=>
 gI .i64 aT λx3=>
 some [.i .i64 i2,.b (decide (x3=0))]) (
 some [.i .i64 i2,.b false])) λvs=>
 U5 vs λx4 x5=>
 some (.cg [.i .i64 x4,.b x5])
def gD:GT:=bt 244 (GS df) n9
theorem kM:SG gD:=kO yf [] 49 [(8,⟨[0,1,2,8,9],[],[],[(0,[(6,.sc (.k (.i .i64))),(7,.sc (.k .b))])],[]⟩)] [(6,⟨[0,1,2,8,11],[],[],[(0,[(9,.sc (.k (.i .i64))),(10,.sc (.k (.i .i64)))])],[]⟩)] [(3,⟨[0,1,2,8],[],[(9,.sc (.k (.i .i64))),(10,.sc (.k (.i .i64)))],[(2,[(9,.sc (.k (.i .i64)))])],[]⟩)] Tryz.func244 (by kernel_rfl) (qN (λ_ _ _=>by kernel_rfl))
def kg (sA p:MV):Option MV:=gA sA λcs=>
 gC cs λm fg=>
 gL m λL=>
 gN fg<|
 gS p λp1=>
 bd (df (.list L) (.s p1) (.func 245 [])) λrA=>
 gT rA λvs=>
 U5 vs λx x1=>
 some (.cg [.i .i64 x,.b x1])
def wY:GT:=bt 216 (dy kg) gD
theorem Aq:SG wY:=kO kM [] 12 [] [] [] Tryz.func216 (by kernel_rfl) (bg (λ_ _=>by kernel_rfl))
def ml (p:MV):Option MV:=gS p λp1=>
 bd (kK (.s p1)) λrA=>
 gT rA λvs=>
 O6 vs λx x1=>
 some (.b x1)
def Jm:GT:=bt 73 (nX ml) wY
theorem Jn:SG Jm:=kO Aq [] 11 [] [] [] Tryz.func73 (by kernel_rfl) (dP (λ_=>by kernel_rfl))
def eZ (sA c:MV):Option MV:=gS sA λkZ=>
 gI .u8 c λc1=>
 bd (Loop (λfg=>
 gC fg λm eg=>
 gI .i64 m λi=>
 gN eg<|
 aW (decide ((0:Int)<=i)) (
 bP (decide ((0:Int)<=i/\i<(kZ.length:Int)))<|
 aW (decide (((kZ.getD (AI i) 0).toNat:Int)=c1)) (
 some (.inr (1,[.i .i64 i]))) (
 some (.inl [.i .i64 (c9 .i64 (i-1))]))) (
 some (.inr (2,[])))) [.i .i64 (c9 .i64 ((kZ.length:Int)-1))]) λp=>
 aW (sh p.1 2) (
 gN p.2<|
 some (.i .i64 (-1))) (
 bP (sh p.1 1)<|
 gC p.2 λm1 jg=>
 gI .i64 m1 λx=>
 gN jg<|
 some (.i .i64 x))
def lH:GT:=bt 198 (dy eZ) Jm
theorem pQ:SG lH:=kO Jn [] 19 [] [] [(2,⟨[0,1],[],[(5,.sc (.k (.i .i64)))],[(1,[(4,.sc (.k (.i .i64)))]),(2,[])],[]⟩)] Tryz.func198 (by kernel_rfl) (bg (λ_ _=>by kernel_rfl))
def fX (sep:MV):Option MV:=gS sep λaes=>
 bd (Loop (λfg=>
 oII .u32 .i64 fg λhash i=>
 aW (decide ((0:Int)<=i)) (
 bP (decide ((0:Int)<=i/\i<(aes.length:Int)))<|
 some (.inl [.i .u32 (c9 .u32 ((c9 .u32 (hash *16777619))+(c9 .u32 ((aes.getD (AI i) 0).toNat:Int)))),.i .i64 (c9 .i64 (i-1))])) (
 some (.inr (2,[.i .u32 hash])))) [.i .u32 0,.i .i64 (c9 .i64 ((aes.length:Int)-1))]) λp=>
 bP (sh p.1 2)<|
 gC p.2 λm2 nd=>
 gI .u32 m2 λal8=>
 gN nd<|
 bd (Loop (λn6=>
 adT .u32 .u32 .i64 n6 λpow sq i1=>
 aW (decide ((0:Int)<i1)) (
 none) (
 some (.inr (4,[.i .u32 pow])))) [.i .u32 1,.i .u32 16777619,.i .i64 (aes.length:Int)]) λp1=>
 bP (sh p1.1 4)<|
 gC p1.2 λm6 kc=>
 gI .u32 m6 λapB=>
 gN kc<|
 some (.cg [.i .u32 al8,.i .u32 apB])
def nx:GT:=bt 239 (nX fX) lH
theorem r5:SG nx:=kO pQ [] 40 [] [(11,⟨[4,7,8],[],[],[(0,[(6,.sc (.k (.i .u32)))])],[]⟩)] [(8,⟨[4],[],[(6,.sc (.k (.i .u32))),(7,.sc (.k (.i .u32))),(8,.sc (.k (.i .i64)))],[(4,[(6,.sc (.k (.i .u32)))])],[]⟩),(3,⟨[0],[],[(4,.sc (.k (.i .u32))),(5,.sc (.k (.i .i64)))],[(2,[(4,.sc (.k (.i .u32)))])],[]⟩)] Tryz.func239 (by kernel_rfl) (dP (λ_=>by kernel_rfl))
def dS (a a1:MV):Option MV:=gS a λa2=>
 gS a1 λiK=>
 bd (fX (.s iK)) λrA=>
 gT rA λvs=>
 oII .u32 .u32 vs λx x1=>
 bd (Loop (λjg=>
 oII .u32 .i64 jg λx2 x3=>
 aW (decide ((c9 .i64 ((a2.length:Int)-(iK.length:Int)))<=x3)) (
 bP (decide ((0:Int)<=x3/\x3<(a2.length:Int)))<|
 some (.inl [.i .u32 (c9 .u32 ((c9 .u32 (x2 *16777619))+(c9 .u32 ((a2.getD (AI x3) 0).toNat:Int)))),.i .i64 (c9 .i64 (x3-1))])) (
 some (.inr (2,[.i .u32 x2])))) [.i .u32 0,.i .i64 (c9 .i64 ((a2.length:Int)-1))]) λp=>
 bP (sh p.1 2)<|
 gC p.2 λm4 ka=>
 gI .u32 m4 λx4=>
 gN ka<|
 bd (
 aW (decide (x4=x)) (
 bP (decide ((0:Int)<=(c9 .i64 ((a2.length:Int)-(iK.length:Int)))/\(c9 .i64 ((a2.length:Int)-(iK.length:Int)))<=(a2.length:Int)/\(a2.length:Int)<=(a2.length:Int)))<|
 some [.b (decide ((By (AI (c9 .i64 ((a2.length:Int)-(iK.length:Int)))) (BY (AI (a2.length:Int)) a2))=iK))]) (
 some [.b false])) λjJ=>
 gC jJ λm5 kG=>
 gB m5 λx5=>
 gN kG<|
 aW x5 (
 some (.i .i64 (c9 .i64 ((a2.length:Int)-(iK.length:Int))))) (
 bd (Loop (λkb=>
 oII .u32 .i64 kb λx6 x7=>
 aW (decide ((0:Int)<=x7)) (
 bP (decide ((0:Int)<=x7/\x7<(a2.length:Int)))<|
 bP (decide ((0:Int)<=(c9 .i64 (x7+(iK.length:Int)))/\(c9 .i64 (x7+(iK.length:Int)))<(a2.length:Int)))<|
 bd (
 aW (decide ((c9 .u32 ((c9 .u32 ((c9 .u32 (x6 *16777619))+(c9 .u32 ((a2.getD (AI x7) 0).toNat:Int))))-(c9 .u32 (x1 *(c9 .u32 ((a2.getD (AI (c9 .i64 (x7+(iK.length:Int)))) 0).toNat:Int))))))=x)) (
 bP (decide ((0:Int)<=x7/\x7<=(c9 .i64 (x7+(iK.length:Int)))/\(c9 .i64 (x7+(iK.length:Int)))<=(a2.length:Int)))<|
 some [.b (decide ((By (AI x7) (BY (AI (c9 .i64 (x7+(iK.length:Int)))) a2))=iK))]) (
 some [.b false])) λpP=>
 gC pP λm8 lc=>
 gB m8 λx8=>
 gN lc<|
 aW x8 (
 some (.inr (1,[.i .i64 x7]))) (
 some (.inl [.i .u32 (c9 .u32 ((c9 .u32 ((c9 .u32 (x6 *16777619))+(c9 .u32 ((a2.getD (AI x7) 0).toNat:Int))))-(c9 .u32 (x1 *(c9 .u32 ((a2.getD (AI (c9 .i64 (x7+(iK.length:Int)))) 0).toNat:Int)))))),.i .i64 (c9 .i64 (x7-1))]))) (
 some (.inr (4,[])))) [.i .u32 x4,.i .i64 (c9 .i64 ((c9 .i64 ((a2.length:Int)-(iK.length:Int)))-1))]) λp1=>
 aW (sh p1.1 4) (
 gN p1.2<|
 some (.i .i64 (-1))) (
 bP (sh p1.1 1)<|
 gC p1.2 λm9 wU=>
 gI .i64 m9 λx9=>
 gN wU<|
 some (.i .i64 x9)))
def jD:GT:=bt 199 (dy dS) nx
theorem ng:SG jD:=kO r5 [] 87 [(17,⟨[0,1,5,6,7,9,11],[],[],[(0,[(85,.sc (.k .b))])],[]⟩),(9,⟨[0,1,5,6,7,8,9],[],[],[(0,[(47,.sc (.k .b))])],[]⟩)] [] [(12,⟨[0,1,5,6,7],[],[(9,.sc (.k (.i .u32))),(11,.sc (.k (.i .i64)))],[(1,[(4,.sc (.k (.i .i64)))]),(4,[])],[]⟩),(6,⟨[0,1,5,6,7,8],[],[(9,.sc (.k (.i .u32))),(10,.sc (.k (.i .i64)))],[(2,[(9,.sc (.k (.i .u32)))])],[]⟩)] Tryz.func199 (by kernel_rfl) (bg (λ_ _=>by kernel_rfl))
def lI (sA substr:MV):Option MV:=gS sA λkZ=>
 gS substr λvj=>
 aW (decide ((vj.length:Int)=0)) (
 some (.i .i64 (kZ.length:Int))) (
 aW (decide ((vj.length:Int)=1)) (
 bP (decide ((0:Int)<=0/\(0:Int)<(vj.length:Int)))<|
 bd (eZ (.s kZ) (.i .u8 ((vj.getD (AI 0) 0).toNat:Int))) λrA=>
 gI .i64 rA λx=>
 some (.i .i64 x)) (
 aW (decide ((vj.length:Int)=(kZ.length:Int))) (
 aW (decide (vj=kZ)) (
 some (.i .i64 0)) (
 some (.i .i64 (-1)))) (
 aW (decide ((kZ.length:Int)<(vj.length:Int))) (
 some (.i .i64 (-1))) (
 bd (dS (.s kZ) (.s vj)) λaT=>
 gI .i64 aT λx1=>
 some (.i .i64 x1)))))
def vk:GT:=bt 138 (dy lI) jD
theorem zn:SG vk:=kO ng [] 36 [] [] [] Tryz.func138 (by kernel_rfl) (bg (λ_ _=>by kernel_rfl))
def rD (p:MV):Option MV:=gS p λp1=>
 bd (ml (.s p1)) λrA=>
 gB rA λx=>
 aW (!x) (
 some (.cg [.s ([]:List UInt8),.i .i64 13])) (
 aW (decide (p1=([47]:List UInt8))) (
 some (.cg [.s ([]:List UInt8),.i .i64 6])) (
 bd (lI (.s p1) (.s ([47]:List UInt8))) λaT=>
 gI .i64 aT λx1=>
 bP (decide ((0:Int)<=0/\(0:Int)<=(imax 1 x1)/\(imax 1 x1)<=(p1.length:Int)))<|
 some (.cg [.s (By (AI 0) (BY (AI (imax 1 x1)) p1)),.i .i64 0])))
def Gn:GT:=bt 74 (nX rD) vk
theorem GY:SG Gn:=kO zn [] 16 [] [] [] Tryz.func74 (by kernel_rfl) (dP (λ_=>by kernel_rfl))
def jj (sA p:MV):Option MV:=gA sA λcs=>
 gC cs λm fg=>
 gL m λL=>
 gN fg<|
 gS p λp1=>
 bd (ml (.s p1)) λrA=>
 gB rA λx=>
 aW (!x) (
 some (.cg [.i .i64 0,.i .i64 13])) (
 bd (kg (.agg [.list L]) (.s p1)) λaT=>
 gT aT λvs=>
 U5 vs λx1 x2=>
 aW (!x2) (
 some (.cg [.i .i64 0,.i .i64 6])) (
 some (.cg [.i .i64 x1,.i .i64 0])))
def yZ:GT:=bt 220 (dy jj) Gn
theorem BQ:SG yZ:=kO GY [] 20 [] [] [] Tryz.func220 (by kernel_rfl) (bg (λ_ _=>by kernel_rfl))
def s7 (sA p:MV):Option MV:=gA sA λcs=>
 gC cs λm fg=>
 gL m λL=>
 gN fg<|
 gS p λp1=>
 bd (jj (.agg [.list L]) (.s p1)) λrA=>
 gT rA λvs=>
 jII vs λx x1=>
 aW (!decide (x1=0)) (
 some (.cg [.agg (fc ([]:List UInt8) ([]:List UInt8) 0 0),.i .i64 x1])) (
 idx L x λy=>
 gA y λdU=>
 gx dU λPath Value Version b5=>
 some (.cg [.agg (fc Path Value Version b5),.i .i64 0]))
def Ms:GT:=bt 172 (dy s7) yZ
theorem K7:SG Ms:=kO BQ [] 23 [] [] [] Tryz.func172 (by kernel_rfl) (bg (λ_ _=>by kernel_rfl))
def pz (c c1 c2 c3 c4:MV):Option MV:=gP c λcs=>
 gC cs λm fg=>
 gS m λx=>
 gN fg<|
 gP c1 λdU=>
 gC dU λm1 eg=>
 gB m1 λx1=>
 gN eg<|
 gP c2 λmQ=>
 gC mQ λm2 jg=>
 gL m2 λL=>
 gN jg<|
 gP c3 λmE=>
 gC mE λm3 nd=>
 gS m3 λx2=>
 gN nd<|
 gP c4 λN0=>
 gC N0 λm4 n6=>
 gI .i64 m4 λx3=>
 gN n6<|
 bd (ml (.s x)) λrA=>
 gB rA λx4=>
 aW (!x4) (
 some (.i .i64 13)) (
 aW x1 (
 some (.i .i64 7)) (
 bd (rD (.s x)) λaT=>
 gT aT λvs=>
 gC vs λm5 ka=>
 gS m5 λx5=>
 gC ka λm6 kG=>
 gI .i64 m6 λx6=>
 gN kG<|
 bd (s7 (.agg [.list L]) (.s x5)) λcf=>
 gT cf λjJ=>
 gC jJ λm7 kb=>
 gA m7 λWZ=>
 gx WZ λPath Value Version b5=>
 gC kb λm12 Ar=>
 gI .i64 m12 λx7=>
 gN Ar<|
 aW (!decide (x7=0)) (
 some (.i .i64 6)) (
 aW (!decide (b5=0)) (
 some (.i .i64 10)) (
 aW (decide ((1000:Int)<(x2.length:Int))) (
 some (.i .i64 5)) (
 aW (decide (x3<0)) (
 some (.i .i64 1)) (
 aV L λlen=>
 aW (decide ((200:Int)<=(len:Int))) (
 some (.i .i64 9)) (
 some (.i .i64 0))))))))
def As:GT:=bt 217 (ah6 pz) Ms
theorem CE:SG As:=kO K7 [[.s],[.b],[.l],[.s],[.i .i64]] 44 [] [] [] Tryz.func217 (by kernel_rfl) (adG (λ_ _ _ _ _=>by kernel_rfl))
def sO (sA p value owner:MV):Option MV:=gA sA λcs=>
 gC cs λm fg=>
 gL m λL=>
 gN fg<|
 gS p λp1=>
 gS value λua=>
 gI .i64 owner λyg=>
 bd (kg (.agg [.list L]) (.s p1)) λrA=>
 gT rA λvs=>
 U5 vs λx x1=>
 bd (pz (.rp [.s p1]) (.rp [.b x1]) (.rp [.list L]) (.rp [.s ua]) (.rp [.i .i64 yg])) λaT=>
 gI .i64 aT λx2=>
 aW (!decide (x2=0)) (
 some (.cg [.agg [.list L],.i .i64 x2])) (
 both (
 bd (iv 4 48 [.list L]) λcf=>
 gF cf λxs=>
 bd (kA 48 [.fresh xs,.i .i64 x,.fresh ([.agg (fc p1 ua 0 yg)]:List MV)]) λfH=>
 gF fH λzy=>
 some (.cg [.agg [.list zy],.i .i64 0])) (
 bd (iv 4 48 [.list L]) λn0=>
 gF n0 λJd=>
 bd (kA 48 [.fresh Jd,.i .i64 x,.fresh ([.agg (fc p1 ua 0 yg)]:List MV)]) λqn=>
 gF qn λX8=>
 some (.cg [.agg [.list X8],.i .i64 0])))
def DW:GT:=bt 170 (WD sO) As
theorem Fs:SG DW:=sn CE [] [] 38 [] [] [] [(6,[0,1,3,4,5,6,7,2,8,9,10,11,12,0,1,3,4,5,6,7,8,2,9,10,11,12,2,8])] [] [] [] [] Tryz.func170 (by kernel_rfl) (Hp (λ_ _ _ _=>by kernel_rfl))
def fV (w:List MV)(kind:MV):Option MV:=gI .i64 kind λpX=>
 a8 w λdj cK eO dF jf dv nw iq fe ek cv cb gU dk mL xE eA cL eB lA=>
 bd (
 aW (decide (xE=0)) (
 aV lA λlen=>
 aV ([.agg [.i .i64 pX,.s fe]]:List MV) λcX=>
 bP (decide ((len+cX) *24<=2^46))<|
 some (0,(aB dj cK eO dF jf dv nw iq fe ek cv cb gU dk mL xE eA cL eB (lA++([.agg [.i .i64 pX,.s fe]]:List MV))))) (
 some (0,(aB dj cK eO dF jf dv nw iq fe ek cv cb gU dk mL xE eA cL eB lA)))) λp=>
 bP (sh p.1 0)<|
 dr .i64 .i64 .i64 .i64 .i64 .i64 .i64 .i64 .i64 .i64 .i64 p.2 λx x1 x2 x3 x4 x5 x6 x7 x8 x9 qq rW zw zx CY Bh DF DG DH xs=>
 some (.fb (.cg []) (aB x x1 x2 x3 x4 x5 x6 x7 x8 x9 qq rW zw zx CY Bh DF DG DH xs))
def ub:GT:=bt 171 (cl2 fV) DW
theorem yh:SG ub:=RV Fs 0 kp [] [(0,1000000)] 26 [22] [] [] [(1,[0,1,2,3,4,5,6,7,8,9,10,11,12,13,14,15,16])] [] [(1,⟨[0,1],[],[],[(0,[(1000000,.box [.k .l,.k (.i .i64),.k .l,.k .l,.k .l,.k (.i .i64),.k (.i .i64),.k (.i .i64),.k .s,.k .s,.k (.i .i64),.k (.i .i64),.k (.i .i64),.k (.i .i64),.k (.i .i64),.k (.i .i64),.k .s,.k (.i .i64),.k .l,.own 2000019 77 false])])],[]⟩)] [] [] Tryz.func171 (by kernel_rfl) (by kernel_rfl) (aaD λ_ _=>by kernel_rfl)
def lJ (w:List MV):Option MV:=a8 w λdj cK eO dF jf dv nw iq fe ek cv cb gU dk mL xE eA cL eB lA=>
 bd (
 aW (!decide (cb=0)) (
 bd (Bm (.agg [.i .i64 cK,.list eO]) (.i .i64 cb)) λrA=>
 gB rA λx=>
 some [.b (!x)]) (
 some [.b false])) λvs=>
 gC vs λDO jz=>
 gB DO λx1=>
 gN jz<|
 aW x1 (
 some (.fb (.cg []) (aB dj cK eO dF jf dv nw iq fe ek cv cb gU dk mL 14 eA cL eB lA))) (
 bd (sO (.agg [.list dj]) (.s fe) (.s ek) (.i .i64 cb)) λaT=>
 gT aT λjJ=>
 gC jJ λK3 ru=>
 gA K3 λcs=>
 gC cs λTe pq=>
 gL Te λL=>
 gN pq<|
 gC ru λNZ rv=>
 gI .i64 NZ λx2=>
 gN rv<|
 bd (fV (aB L cK eO dF jf dv nw iq fe ek cv cb gU dk mL x2 eA cL eB lA) (.i .i64 1)) λcf=>
 gW cf λx3 ls=>
 a8 ls λmn ll qR ny vS nz Cd vT uc qS lm ln vU nA Ce xE1 qT mM qU pT=>
 some (.fb (.cg []) (aB mn ll qR ny vS nz Cd vT uc qS lm ln vU nA Ce xE1 qT mM qU pT)))
def vl:GT:=bt 106 (WX lJ) ub
theorem zo:SG vl:=RV yh 0 kp [] [(0,1000000)] 60 [] [] [] [(0,[0,1,2,3,4,5,6,7,8,9,10,11,12,13,14,15,16,17,18,19]),(2,[0,1,2,3,4,5,6,7,8,9,10,11,12,13,14,15,16,17,18,19,20,21,22,23,24,25,26,27,28,29,30,31,32,33])] [(0,⟨[0,1000000],[2000019],[],[(0,[(21,.sc (.k .b))])],[]⟩)] [] [] [] Tryz.func106 (by kernel_rfl) (by kernel_rfl) (tT λ_=>by kernel_rfl)
def pA (w:List MV):Option MV:=a8 w λdj cK eO dF jf dv nw iq fe ek cv cb gU dk mL xE eA cL eB lA=>
 bd (s7 (.agg [.list dj]) (.s fe)) λrA=>
 gT rA λvs=>
 gC vs λDO jz=>
 gA DO λcs=>
 gx cs λPath Value Version b5=>
 gC jz λm25 Jg=>
 gI .i64 m25 λx=>
 gN Jg<|
 some (.fb (.cg []) (aB dj cK eO dF jf dv nw iq fe ek cv cb gU dk mL x Value Version eB lA))
def At:GT:=bt 107 (WX pA) vl
theorem CF:SG At:=RV zo 0 kp [] [(0,1000000)] 35 [] [24] [(1,[2])] [(0,[0,1,2,3,4,5,6,7,8,9,10,11,12,13,14,15,16]),(1,[0,1,2,3,4,5,6,7,8,9,10,11,12,13,14,15,16,17,18,19])] [] [] [] [] Tryz.func107 (by kernel_rfl) (by kernel_rfl) (tT λ_=>by kernel_rfl)
def gE (sA p version:MV):Option MV:=gA sA λcs=>
 gC cs λm fg=>
 gL m λL=>
 gN fg<|
 gS p λp1=>
 gI .i64 version λlh=>
 bd (jj (.agg [.list L]) (.s p1)) λrA=>
 gT rA λvs=>
 jII vs λx x1=>
 bd (
 aW (decide (x1=0)) (
 aW (!decide (lh=(-1))) (
 idx L x λy=>
 gA y λdU=>
 gx dU λPath Value Version b5=>
 some [.b (!decide (lh=Version))]) (
 some [.b false])) (
 some [.b false])) λjJ=>
 gC jJ λm7 kb=>
 gB m7 λx2=>
 gN kb<|
 aW x2 (
 some (.cg [.i .i64 x,.i .i64 8])) (
 some (.cg [.i .i64 x,.i .i64 x1]))
def rE:GT:=bt 221 (GS gE) At
theorem vV:SG rE:=kO CF [] 35 [(2,⟨[2,3,8,9],[],[],[(0,[(31,.sc (.k .b))])],[]⟩)] [] [] Tryz.func221 (by kernel_rfl) (qN (λ_ _ _=>by kernel_rfl))
def Bn (sA p value version:MV):Option MV:=gA sA λcs=>
 gC cs λm fg=>
 gL m λL=>
 gN fg<|
 gS p λp1=>
 gS value λua=>
 gI .i64 version λlh=>
 bd (gE (.agg [.list L]) (.s p1) (.i .i64 lh)) λrA=>
 gT rA λvs=>
 jII vs λx x1=>
 aW (!decide (x1=0)) (
 some (.cg [.agg [.list L],.i .i64 x1])) (
 aW (decide ((1000:Int)<(ua.length:Int))) (
 some (.cg [.agg [.list L],.i .i64 5])) (
 idx L x λy=>
 gA y λdU=>
 gx dU λPath Value Version b5=>
 aW (decide ((1000000000:Int)<=Version)) (
 some (.cg [.agg [.list L],.i .i64 9])) (
 bd (iv 4 48 [.list L]) λaT=>
 gF aT λxs=>
 idx xs x λy1=>
 gA y1 λmQ=>
 gx mQ λew cC bF rZ=>
 idx (xs.set (AI x) (.agg (fc ew ua bF rZ))) x λy2=>
 gA y2 λmE=>
 gx mE λCf qv iS Ft=>
 idx (xs.set (AI x) (.agg (fc ew ua bF rZ))) x λy3=>
 gA y3 λN0=>
 gx N0 λVf N1 Jo aix=>
 some (.cg [.agg [.list ((xs.set (AI x) (.agg (fc ew ua bF rZ))).set (AI x) (.agg (fc Vf N1 (c9 .i64 (iS+1)) aix)))],.i .i64 0]))))
def Mt:GT:=bt 173 (WD Bn) rE
theorem K8:SG Mt:=kO vV [] 59 [] [] [] Tryz.func173 (by kernel_rfl) (Hp (λ_ _ _ _=>by kernel_rfl))
def pB (w:List MV):Option MV:=a8 w λdj cK eO dF jf dv nw iq fe ek cv cb gU dk mL xE eA cL eB lA=>
 bd (Bn (.agg [.list dj]) (.s fe) (.s ek) (.i .i64 cv)) λrA=>
 gT rA λvs=>
 gC vs λDO jz=>
 gA DO λcs=>
 gC cs λK3 ru=>
 gL K3 λL=>
 gN ru<|
 gC jz λTe pq=>
 gI .i64 Te λx=>
 gN pq<|
 bd (fV (aB L cK eO dF jf dv nw iq fe ek cv cb gU dk mL x eA cL eB lA) (.i .i64 2)) λaT=>
 gW aT λx1 ls=>
 a8 ls λmn ll qR ny vS nz Cd vT uc qS lm ln vU nA Ce xE1 qT mM qU pT=>
 bd (
 aW (decide (xE1=0)) (
 bd (s7 (.agg [.list mn]) (.s uc)) λcf=>
 gT cf λjJ=>
 gC jJ λm43 Jh=>
 gA m43 λdU=>
 gx dU λPath Value Version b5=>
 gC Jh λm48 Qx=>
 gI .i64 m48 λx2=>
 gN Qx<|
 some (0,(aB mn ll qR ny vS nz Cd vT uc qS lm ln vU nA Ce xE1 qT Version qU pT))) (
 some (0,(aB mn ll qR ny vS nz Cd vT uc qS lm ln vU nA Ce xE1 qT mM qU pT)))) λp=>
 bP (sh p.1 0)<|
 dr .i64 .i64 .i64 .i64 .i64 .i64 .i64 .i64 .i64 .i64 .i64 p.2 λx3 x4 x5 x6 x7 x8 x9 qq rW zw zx CY Bh DF DG DH Fm Mq O8 xs=>
 some (.fb (.cg []) (aB x3 x4 x5 x6 x7 x8 x9 qq rW zw zx CY Bh DF DG DH Fm Mq O8 xs))
def Au:GT:=bt 108 (WX pB) Mt
theorem CG:SG Au:=RV K8 0 kp [] [(0,1000000)] 64 [] [] [] [(0,[0,1,2,3,4,5,6,7,8,9,10,11,12,13,14,15,16,17,18,19,20,21,22,23,24,25,26,27,28,29,30,31,32,33]),(3,[0,1,2,3,4,5,6,7,8,9,10,11,12,13,14,15,16])] [] [(3,⟨[0],[],[],[(0,[(1000000,.box [.k .l,.k (.i .i64),.k .l,.k .l,.k .l,.k (.i .i64),.k (.i .i64),.k (.i .i64),.k .s,.k .s,.k (.i .i64),.k (.i .i64),.k (.i .i64),.k (.i .i64),.k (.i .i64),.k (.i .i64),.k .s,.k (.i .i64),.k .l,.own 2000019 77 false])])],[]⟩)] [] [] Tryz.func108 (by kernel_rfl) (by kernel_rfl) (tT λ_=>by kernel_rfl)
def iT (s1 s2:MV):Option MV:=gL s1 λtZ=>
 gL s2 λzm=>
 aV tZ λlen=>
 aV zm λcX=>
 aW (!decide ((len:Int)=(cX:Int))) (
 some (.b false)) (
 aV tZ λdz=>
 bd (Loop (λfg=>
 gC fg λm eg=>
 gI .i64 m λx=>
 gN eg<|
 aW (decide (x<(dz:Int))) (
 idx tZ x λy=>
 gS y λx1=>
 idx zm x λy1=>
 gS y1 λx2=>
 aW (!decide (x1=x2)) (
 some (.inr (1,[.b false]))) (
 some (.inl [.i .i64 (c9 .i64 (x+1))]))) (
 some (.inr (2,[])))) [.i .i64 0]) λp=>
 aW (sh p.1 2) (
 gN p.2<|
 some (.b true)) (
 bP (sh p.1 1)<|
 gC p.2 λm1 jg=>
 gB m1 λx3=>
 gN jg<|
 some (.b x3)))
def ud:GT:=bt 142 (dy iT) Au
theorem yi:SG ud:=sn CG [] [] 26 [] [] [] [(6,[0,1,2,3,4,5,6,7,8])] [] [] [(4,⟨[0,1,12],[],[(13,.sc (.k (.i .i64)))],[(1,[(4,.sc (.k .b))]),(2,[])],[]⟩)] [] Tryz.func142 (by kernel_rfl) (bg (λ_ _=>by kernel_rfl))
def ue (p q:MV):Option MV:=gS p λp1=>
 gS q λq1=>
 bd (kK (.s p1)) λrA=>
 gT rA λvs=>
 O6 vs λx x1=>
 bd (kK (.s q1)) λaT=>
 gT aT λjJ=>
 O6 jJ λx2 x3=>
 bd (
 aW x1 (
 aW x3 (
 aV x2 λlen=>
 aV x λcX=>
 aW (decide ((cX:Int)<(len:Int))) (
 aV x λdz=>
 aV x2 λiR=>
 bP (decide ((0:Int)<=0/\(0:Int)<=(dz:Int)/\(dz:Int)<=(iR:Int)))<|
 bd (iT (.list x) (.list (By (AI 0) (BY (AI (dz:Int)) x2)))) λcf=>
 gB cf λx4=>
 some [.b x4]) (
 some [.b false])) (
 some [.b false])) (
 some [.b false])) λpP=>
 gC pP λm4 n6=>
 gB m4 λx5=>
 gN n6<|
 some (.b x5)
def Jp:GT:=bt 222 (dy ue) ud
theorem Jq:SG Jp:=kO yi [] 38 [(3,⟨[5,6,7,8],[],[],[(0,[(4,.sc (.k .b))])],[]⟩)] [] [] Tryz.func222 (by kernel_rfl) (bg (λ_ _=>by kernel_rfl))
def sP (sA p version:MV):Option MV:=gA sA λcs=>
 gC cs λm fg=>
 gL m λL=>
 gN fg<|
 gS p λp1=>
 gI .i64 version λlh=>
 bd (gE (.agg [.list L]) (.s p1) (.i .i64 lh)) λrA=>
 gT rA λvs=>
 jII vs λx x1=>
 aW (decide (p1=([47]:List UInt8))) (
 some (.cg [.agg [.list L],.i .i64 13])) (
 aW (!decide (x1=0)) (
 some (.cg [.agg [.list L],.i .i64 x1])) (
 bd (
 aV L λlen=>
 aW (decide ((c9 .i64 (x+1))<(len:Int))) (
 idx L (c9 .i64 (x+1)) λy=>
 gA y λdU=>
 gx dU λPath Value Version b5=>
 bd (ue (.s p1) (.s Path)) λaT=>
 gB aT λx2=>
 some [.b x2]) (
 some [.b false])) λjJ=>
 gC jJ λm7 kb=>
 gB m7 λx3=>
 gN kb<|
 aW x3 (
 some (.cg [.agg [.list L],.i .i64 10])) (
 bd (iv 4 48 [.list L]) λcf=>
 gF cf λxs=>
 bd (qL [.fresh xs,.i .i64 x,.i .i64 (c9 .i64 (x+1))]) λfH=>
 gF fH λzy=>
 some (.cg [.agg [.list zy],.i .i64 0]))))
def DX:GT:=bt 174 (GS sP) Jp
theorem Fu:SG DX:=kO Jq [] 53 [(6,⟨[1,3,6,8],[],[],[(0,[(26,.sc (.k .b))])],[47,51]⟩)] [] [] Tryz.func174 (by kernel_rfl) (qN (λ_ _ _=>by kernel_rfl))
def lK (w:List MV):Option MV:=a8 w λdj cK eO dF jf dv nw iq fe ek cv cb gU dk mL xE eA cL eB lA=>
 bd (sP (.agg [.list dj]) (.s fe) (.i .i64 cv)) λrA=>
 gT rA λvs=>
 gC vs λDO jz=>
 gA DO λcs=>
 gC cs λK3 ru=>
 gL K3 λL=>
 gN ru<|
 gC jz λTe pq=>
 gI .i64 Te λx=>
 gN pq<|
 bd (fV (aB L cK eO dF jf dv nw iq fe ek cv cb gU dk mL x eA cL eB lA) (.i .i64 3)) λaT=>
 gW aT λx1 ls=>
 a8 ls λmn ll qR ny vS nz Cd vT uc qS lm ln vU nA Ce xE1 qT mM qU pT=>
 some (.fb (.cg []) (aB mn ll qR ny vS nz Cd vT uc qS lm ln vU nA Ce xE1 qT mM qU pT))
def vm:GT:=bt 109 (WX lK) DX
theorem zp:SG vm:=RV Fu 0 kp [] [(0,1000000)] 31 [] [] [] [(0,[0,1,2,3,4,5,6,7,8,9,10,11,12,13,14,15,16,17,18,19,20,21,22,23,24,25,26,27,28])] [] [] [] [] Tryz.func109 (by kernel_rfl) (by kernel_rfl) (tT λ_=>by kernel_rfl)
def uf (p:MV):Option MV:=gS p λp1=>
 bd (kK (.s p1)) λrA=>
 gT rA λvs=>
 O6 vs λx x1=>
 aW (!x1) (
 some (.cg [.list ([]:List MV),.i .i64 13])) (
 some (.cg [.list x,.i .i64 0]))
def Jr:GT:=bt 224 (nX uf) vm
theorem Js:SG Jr:=kO zp [] 14 [] [] [] Tryz.func224 (by kernel_rfl) (dP (λ_=>by kernel_rfl))
def yl (a a1:MV):Option MV:=gA a λcs=>
 gC cs λm fg=>
 gL m λL=>
 gN fg<|
 gS a1 λiK=>
 bd (jj (.agg [.list L]) (.s iK)) λrA=>
 gT rA λvs=>
 jII vs λx x1=>
 aW (!decide (x1=0)) (
 some (.cg [.list ([]:List MV),.i .i64 x1])) (
 bd (uf (.s iK)) λaT=>
 gT aT λjJ=>
 Fo jJ λx2 x3=>
 bP (nS 4 L)<|
 aV L λlen=>
 bP (decide ((0:Int)<=(c9 .i64 (x+1))/\(c9 .i64 (x+1))<=(len:Int)/\(len:Int)<=(len:Int)))<|
 aV (By (AI (c9 .i64 (x+1))) (BY (AI (len:Int)) L)) λcX=>
 bd (Loop (λka=>
 Fo ka λxs x4=>
 aW (decide (x4<(cX:Int))) (
 idx (By (AI (c9 .i64 (x+1))) (BY (AI (len:Int)) L)) x4 λy=>
 gA y λdU=>
 gx dU λPath Value Version b5=>
 bd (ue (.s iK) (.s Path)) λcf=>
 gB cf λx5=>
 aW (!x5) (
 some (.inr (2,[.list xs]))) (
 bd (uf (.s Path)) λfH=>
 gT fH λpP=>
 Fo pP λx6 x7=>
 aV x6 λdz=>
 aV x2 λiR=>
 bd (
 aW (decide ((dz:Int)=(c9 .i64 ((iR:Int)+1)))) (
 aV x2 λkj=>
 idx x6 (kj:Int) λy1=>
 gS y1 λx8=>
 aV xs λuD=>
 aV ([.s x8]:List MV) λCC=>
 bP (decide ((uD+CC) *16<=2^46))<|
 some (0,[.list (xs++([.s x8]:List MV))])) (
 some (0,[.list xs]))) λp1=>
 bP (sh p1.1 0)<|
 gC p1.2 λQp DY=>
 gL Qp λzy=>
 gN DY<|
 some (.inl [.list zy,.i .i64 (c9 .i64 (x4+1))]))) (
 some (.inr (2,[.list xs])))) [.list ([]:List MV),.i .i64 0]) λp=>
 bP (sh p.1 2)<|
 gC p.2 λm14 DN=>
 gL m14 λJd=>
 gN DN<|
 some (.cg [.list Jd,.i .i64 0]))
def Jt:GT:=bt 175 (dy yl) Jr
theorem Ju:SG Jt:=sn Js [] [] 66 [62] [] [] [] [] [(12,⟨[1,8,13,33,34,35],[],[],[(0,[(10,.sc (.own 63 9 true))])],[63]⟩)] [(7,⟨[1,8,33,34],[],[(10,.sc (.own 63 9 true)),(35,.sc (.k (.i .i64)))],[(2,[(10,.sc (.own 63 9 true))])],[63]⟩)] [] Tryz.func175 (by kernel_rfl) (bg (λ_ _=>by kernel_rfl))
def nN (w:List MV):Option MV:=a8 w λdj cK eO dF jf dv nw iq fe ek cv cb gU dk mL xE eA cL eB lA=>
 bd (yl (.agg [.list dj]) (.s fe)) λrA=>
 gT rA λvs=>
 Fo vs λx x1=>
 some (.fb (.cg []) (aB dj cK eO dF jf dv nw iq fe ek cv cb gU dk mL x1 eA cL x lA))
def y5:GT:=bt 110 (WX nN) Jt
theorem BR:SG y5:=RV Ju 0 kp [] [(0,1000000)] 24 [] [] [] [(0,[0,1,2,3,4,5,6,7,8,9,10,11,12,13,14,15,16,17,18,19,20,21,22,23])] [] [] [] [] Tryz.func110 (by kernel_rfl) (by kernel_rfl) (tT λ_=>by kernel_rfl)
def ym (b id span:MV):Option MV:=gA b λcs=>
 I8 cs λcI L=>
 gI .i64 id λHv=>
 gI .i64 span λMu=>
 bd (il (.agg [.i .i64 cI,.list L]) (.i .i64 Hv)) λrA=>
 gT rA λvs=>
 U5 vs λx x1=>
 bd (
 aW (decide (Hv<1)) (
 some [.b true]) (
 aW (decide (Mu<1)) (
 some [.b true]) (
 some [.b (decide ((1000:Int)<Mu))]))) λjJ=>
 gC jJ λm4 n6=>
 gB m4 λx2=>
 gN n6<|
 aW x2 (
 some (.cg [.agg [.i .i64 cI,.list L],.i .i64 1])) (
 aW x1 (
 some (.cg [.agg [.i .i64 cI,.list L],.i .i64 7])) (
 aV L λlen=>
 aW (decide ((50:Int)<=(len:Int))) (
 some (.cg [.agg [.i .i64 cI,.list L],.i .i64 9])) (
 both (
 bd (iv 3 24 [.list L]) λaT=>
 gF aT λxs=>
 bd (kA 24 [.fresh xs,.i .i64 x,.fresh ([.agg [.i .i64 Hv,.i .i64 Mu,.i .i64 (c9 .i64 (cI+Mu))]]:List MV)]) λcf=>
 gF cf λzy=>
 some (.cg [.agg [.i .i64 cI,.list zy],.i .i64 0])) (
 bd (iv 3 24 [.list L]) λfH=>
 gF fH λJd=>
 bd (kA 24 [.fresh Jd,.i .i64 x,.fresh ([.agg [.i .i64 Hv,.i .i64 Mu,.i .i64 (c9 .i64 (cI+Mu))]]:List MV)]) λn0=>
 gF n0 λX8=>
 some (.cg [.agg [.i .i64 cI,.list X8],.i .i64 0])))))
def Jv:GT:=bt 176 (GS ym) y5
theorem Jw:SG Jv:=sn BR [] [] 52 [] [] [] [(8,[0,1,3,4,5,6,7,8,9,10,2,11,12,13,14,0,1,3,4,5,6,7,8,9,10,11,2,12,13,14,2,11])] [(2,⟨[1,2,3,6,8,9],[],[],[(0,[(16,.sc (.k .b))])],[39,48,49]⟩)] [] [] [] Tryz.func176 (by kernel_rfl) (qN (λ_ _ _=>by kernel_rfl))
def nO (w:List MV):Option MV:=a8 w λdj cK eO dF jf dv nw iq fe ek cv cb gU dk mL xE eA cL eB lA=>
 bd (ym (.agg [.i .i64 cK,.list eO]) (.i .i64 cb) (.i .i64 gU)) λrA=>
 gT rA λvs=>
 gC vs λDO jz=>
 gA DO λcs=>
 I8 cs λcI L=>
 gC jz λNZ rv=>
 gI .i64 NZ λx=>
 gN rv<|
 some (.fb (.cg []) (aB dj cI L dF jf dv nw iq fe ek cv cb gU dk mL x eA cL eB lA))
def y6:GT:=bt 111 (WX nO) Jv
theorem BS:SG y6:=RV Jw 0 kp [] [(0,1000000)] 29 [] [] [] [(0,[0,1,2,3,4,5,6,7,8,9,10,11,12,13,14,15,16,17,18,19,20,21,22,23,24,25,26,27,28])] [] [] [] [] Tryz.func111 (by kernel_rfl) (by kernel_rfl) (tT λ_=>by kernel_rfl)
def vn (b id:MV):Option MV:=gA b λcs=>
 I8 cs λcI L=>
 gI .i64 id λHv=>
 bd (il (.agg [.i .i64 cI,.list L]) (.i .i64 Hv)) λrA=>
 gT rA λvs=>
 U5 vs λx x1=>
 aW (!x1) (
 some (.cg [.agg [.i .i64 cI,.list L],.i .i64 14])) (
 bd (iv 3 24 [.list L]) λaT=>
 gF aT λxs=>
 idx xs x λy=>
 gA y λdU=>
 xY dU λId Span dX=>
 idx xs x λy1=>
 gA y1 λmQ=>
 xY mQ λVe pU tX=>
 some (.cg [.agg [.i .i64 cI,.list (xs.set (AI x) (.agg [.i .i64 Ve,.i .i64 pU,.i .i64 (c9 .i64 (cI+Span))]))],.i .i64 0]))
def Gp:GT:=bt 177 (dy vn) y6
theorem GZ:SG Gp:=sn BS [] [] 36 [] [] [] [(5,[0,1,2,3,4,5,6,7,8,9,10,11,12,13,14])] [] [] [] [] Tryz.func177 (by kernel_rfl) (bg (λ_ _=>by kernel_rfl))
def mN (w:List MV):Option MV:=a8 w λdj cK eO dF jf dv nw iq fe ek cv cb gU dk mL xE eA cL eB lA=>
 bd (vn (.agg [.i .i64 cK,.list eO]) (.i .i64 cb)) λrA=>
 gT rA λvs=>
 gC vs λDO jz=>
 gA DO λcs=>
 I8 cs λcI L=>
 gC jz λNZ rv=>
 gI .i64 NZ λx=>
 gN rv<|
 some (.fb (.cg []) (aB dj cI L dF jf dv nw iq fe ek cv cb gU dk mL x eA cL eB lA))
def wZ:GT:=bt 112 (WX mN) Gp
theorem Av:SG wZ:=RV GZ 0 kp [] [(0,1000000)] 24 [] [] [] [(0,[0,1,2,3,4,5,6,7,8,9,10,11,12,13,14,15,16,17,18,19,20,21,22,23])] [] [] [] [] Tryz.func112 (by kernel_rfl) (by kernel_rfl) (tT λ_=>by kernel_rfl)
def vo (b id:MV):Option MV:=gA b λcs=>
 I8 cs λcI L=>
 gI .i64 id λHv=>
 bd (il (.agg [.i .i64 cI,.list L]) (.i .i64 Hv)) λrA=>
 gT rA λvs=>
 U5 vs λx x1=>
 aW (!x1) (
 some (.cg [.agg [.i .i64 cI,.list L],.i .i64 14])) (
 bd (iv 3 24 [.list L]) λaT=>
 gF aT λxs=>
 bd (qL [.fresh xs,.i .i64 x,.i .i64 (c9 .i64 (x+1))]) λcf=>
 gF cf λzy=>
 some (.cg [.agg [.i .i64 cI,.list zy],.i .i64 0]))
def Gq:GT:=bt 178 (dy vo) wZ
theorem G0:SG Gq:=kO Av [] 26 [] [] [] Tryz.func178 (by kernel_rfl) (bg (λ_ _=>by kernel_rfl))
def yn (sA owner:MV):Option MV:=gA sA λcs=>
 gC cs λm fg=>
 gL m λL=>
 gN fg<|
 gI .i64 owner λyg=>
 aV L λlen=>
 bd (Loop (λeg=>
 GV eg λgone t x=>
 aW (decide (x<(len:Int))) (
 idx L x λy=>
 gA y λdU=>
 gx dU λPath Value Version b5=>
 bd (
 aW (decide ((0:Int)<yg)) (
 some [.b (decide (b5=yg))]) (
 some [.b false])) λvs=>
 gC vs λm8 rX=>
 gB m8 λx1=>
 gN rX<|
 aW x1 (
 aV gone λcX=>
 aV ([.s Path]:List MV) λdz=>
 bP (decide ((cX+dz) *16<=2^46))<|
 some (.inl [.list (gone++([.s Path]:List MV)),.list t,.i .i64 (c9 .i64 (x+1))])) (
 aV t λiR=>
 aV ([.agg (fc Path Value Version b5)]:List MV) λkj=>
 bP (decide ((iR+kj) *48<=2^46))<|
 some (.inl [.list gone,.list (t++([.agg (fc Path Value Version b5)]:List MV)),.i .i64 (c9 .i64 (x+1))]))) (
 some (.inr (2,[.list gone,.list t])))) [.list ([]:List MV),.list ([]:List MV),.i .i64 0]) λp=>
 bP (sh p.1 2)<|
 O7 p.2 λJx t1=>
 some (.cg [.agg [.list t1],.list Jx])
def Jy:GT:=bt 228 (dy yn) Gq
theorem Jz:SG Jy:=sn G0 [] [] 40 [29,34] [] [] [] [(6,⟨[1,4,6,7,9,12,13,14],[30,35],[],[(0,[(25,.sc (.k .b))])],[30,35]⟩)] [] [(4,⟨[1,4,12,13],[],[(6,.sc (.own 30 9 true)),(7,.box [.own 35 98 true]),(14,.sc (.k (.i .i64)))],[(2,[(6,.sc (.own 30 9 true)),(7,.box [.own 35 98 true])])],[30,35]⟩)] [] Tryz.func228 (by kernel_rfl) (bg (λ_ _=>by kernel_rfl))
def li (w:List MV)(id:MV):Option MV:=gI .i64 id λHv=>
 a8 w λdj cK eO dF jf dv nw iq fe ek cv cb gU dk mL xE eA cL eB lA=>
 bd (yn (.agg [.list dj]) (.i .i64 Hv)) λrA=>
 gT rA λvs=>
 gC vs λDO jz=>
 gA DO λcs=>
 gC cs λK3 ru=>
 gL K3 λL=>
 gN ru<|
 gC jz λTe pq=>
 gL Te λx=>
 gN pq<|
 aV x λlen=>
 bd (Loop (λrv=>
 gC rv λNZ DP=>
 gI .i64 NZ λx1=>
 a8 DP λx2 x3 x4 x5 x6 x7 x8 x9 qq rW zw zx CY Bh DF DG DH Fm Mq xs=>
 aW (decide (x1<(len:Int))) (
 idx x x1 λy=>
 gS y λO8=>
 aV xs λcX=>
 aV ([.agg [.i .i64 3,.s O8]]:List MV) λdz=>
 bP (decide ((cX+dz) *24<=2^46))<|
 some (.inl [.i .i64 (c9 .i64 (x1+1)),.list x2,.i .i64 x3,.list x4,.list x5,.list x6,.i .i64 x7,.i .i64 x8,.i .i64 x9,.s qq,.s rW,.i .i64 zw,.i .i64 zx,.i .i64 CY,.i .i64 Bh,.i .i64 DF,.i .i64 DG,.s DH,.i .i64 Fm,.list Mq,.list (xs++([.agg [.i .i64 3,.s O8]]:List MV))])) (
 some (.inr (2,(aB x2 x3 x4 x5 x6 x7 x8 x9 qq rW zw zx CY Bh DF DG DH Fm Mq xs))))) [.i .i64 0,.list L,.i .i64 cK,.list eO,.list dF,.list jf,.i .i64 dv,.i .i64 nw,.i .i64 iq,.s fe,.s ek,.i .i64 cv,.i .i64 cb,.i .i64 gU,.i .i64 dk,.i .i64 mL,.i .i64 xE,.s eA,.i .i64 cL,.list eB,.list lA]) λp=>
 bP (sh p.1 2)<|
 dr .i64 .i64 .i64 .i64 .i64 .i64 .i64 .i64 .i64 .i64 .i64 p.2 λVd x23 x24 x25 x26 x27 x28 x29 x30 x31 x32 x33 x34 x35 x36 x37 x38 x39 x40 zy=>
 some (.fb (.cg []) (aB Vd x23 x24 x25 x26 x27 x28 x29 x30 x31 x32 x33 x34 x35 x36 x37 x38 x39 x40 zy))
def y7:GT:=bt 179 (cl2 li) Jy
theorem BT:SG y7:=RV Jz 0 kp [] [(0,1000000)] 41 [36] [] [] [] [] [] [(3,⟨[0,23,24],[],[(25,.sc (.k (.i .i64))),(1000000,.box [.k .l,.k (.i .i64),.k .l,.k .l,.k .l,.k (.i .i64),.k (.i .i64),.k (.i .i64),.k .s,.k .s,.k (.i .i64),.k (.i .i64),.k (.i .i64),.k (.i .i64),.k (.i .i64),.k (.i .i64),.k .s,.k (.i .i64),.k .l,.own 2000019 77 false])],[(2,[(1000000,.box [.k .l,.k (.i .i64),.k .l,.k .l,.k .l,.k (.i .i64),.k (.i .i64),.k (.i .i64),.k .s,.k .s,.k (.i .i64),.k (.i .i64),.k (.i .i64),.k (.i .i64),.k (.i .i64),.k (.i .i64),.k .s,.k (.i .i64),.k .l,.own 2000019 77 false])])],[]⟩)] [] Tryz.func179 (by kernel_rfl) (by kernel_rfl) (aaD λ_ _=>by kernel_rfl)
def mO (w:List MV):Option MV:=a8 w λdj cK eO dF jf dv nw iq fe ek cv cb gU dk mL xE eA cL eB lA=>
 bd (vo (.agg [.i .i64 cK,.list eO]) (.i .i64 cb)) λrA=>
 gT rA λvs=>
 gC vs λDO jz=>
 gA DO λcs=>
 I8 cs λcI L=>
 gC jz λNZ rv=>
 gI .i64 NZ λx=>
 gN rv<|
 bd (
 aW (decide (x=0)) (
 bd (li (aB dj cI L dF jf dv nw iq fe ek cv cb gU dk mL x eA cL eB lA) (.i .i64 cb)) λaT=>
 gW aT λx1 ls=>
 a8 ls λmn ll qR ny vS nz Cd vT uc qS lm ln vU nA Ce xE1 qT mM qU pT=>
 some (0,(aB mn ll qR ny vS nz Cd vT uc qS lm ln vU nA Ce xE1 qT mM qU pT))) (
 some (0,(aB dj cI L dF jf dv nw iq fe ek cv cb gU dk mL x eA cL eB lA)))) λp=>
 bP (sh p.1 0)<|
 dr .i64 .i64 .i64 .i64 .i64 .i64 .i64 .i64 .i64 .i64 .i64 p.2 λx2 x3 x4 x5 x6 x7 x8 x9 qq rW zw zx CY Bh DF DG DH Fm Mq xs=>
 some (.fb (.cg []) (aB x2 x3 x4 x5 x6 x7 x8 x9 qq rW zw zx CY Bh DF DG DH Fm Mq xs))
def xa:GT:=bt 113 (WX mO) y7
theorem Aw:SG xa:=RV BT 0 kp [] [(0,1000000)] 37 [] [] [] [(0,[0,1,2,3,4,5,6,7,8,9,10,11,12,13,14,15,16,17,18,19,20,21,22,23])] [] [(2,⟨[0],[],[],[(0,[(1000000,.box [.k .l,.k (.i .i64),.k .l,.k .l,.k .l,.k (.i .i64),.k (.i .i64),.k (.i .i64),.k .s,.k .s,.k (.i .i64),.k (.i .i64),.k (.i .i64),.k (.i .i64),.k (.i .i64),.k (.i .i64),.k .s,.k (.i .i64),.k .l,.own 2000019 77 false])])],[]⟩)] [] [] Tryz.func113 (by kernel_rfl) (by kernel_rfl) (tT λ_=>by kernel_rfl)
def yo (b now:MV):Option MV:=gA b λcs=>
 I8 cs λcI L=>
 gI .i64 now λN2=>
 aW (decide (N2<cI)) (
 some (.cg [.agg [.i .i64 cI,.list L],.list ([]:List MV),.i .i64 15])) (
 aW (decide ((1000000000:Int)<N2)) (
 some (.cg [.agg [.i .i64 cI,.list L],.list ([]:List MV),.i .i64 5])) (
 aV L λlen=>
 bd (Loop (λjg=>
 gC jg λm2 nd=>
 gL m2 λgone=>
 gC nd λm3 n6=>
 gI .i64 m3 λout=>
 Fo n6 λjy x=>
 aW (decide (x<(len:Int))) (
 idx L x λy=>
 gA y λdU=>
 xY dU λId Span dX=>
 aW (decide (dX<=N2)) (
 aV gone λcX=>
 aV ([.i .i64 Id]:List MV) λdz=>
 bP (decide ((cX+dz) *8<=2^46))<|
 some (.inl [.list (gone++([.i .i64 Id]:List MV)),.i .i64 out,.list jy,.i .i64 (c9 .i64 (x+1))])) (
 aV jy λiR=>
 aV ([.agg [.i .i64 Id,.i .i64 Span,.i .i64 dX]]:List MV) λkj=>
 bP (decide ((iR+kj) *24<=2^46))<|
 some (.inl [.list gone,.i .i64 out,.list (jy++([.agg [.i .i64 Id,.i .i64 Span,.i .i64 dX]]:List MV)),.i .i64 (c9 .i64 (x+1))]))) (
 some (.inr (3,[.list gone,.i .i64 out,.list jy])))) [.list ([]:List MV),.i .i64 N2,.list ([]:List MV),.i .i64 0]) λp=>
 bP (sh p.1 3)<|
 gC p.2 λm9 lc=>
 gL m9 λJx=>
 I8 lc λDK N3=>
 some (.cg [.agg [.i .i64 DK,.list N3],.list Jx,.i .i64 0])))
def JA:GT:=bt 180 (dy yo) xa
theorem JB:SG JA:=sn Aw [] [] 48 [37,42] [] [] [] [] [] [(8,⟨[1,4,24,25],[],[(7,.sc (.own 38 3 true)),(8,.box [.k (.i .i64),.own 43 126 true]),(26,.sc (.k (.i .i64)))],[(3,[(7,.sc (.own 38 3 true)),(8,.box [.k (.i .i64),.own 43 126 true])])],[38,43]⟩)] [] Tryz.func180 (by kernel_rfl) (bg (λ_ _=>by kernel_rfl))
def nP (w:List MV):Option MV:=a8 w λdj cK eO dF jf dv nw iq fe ek cv cb gU dk mL xE eA cL eB lA=>
 bd (yo (.agg [.i .i64 cK,.list eO]) (.i .i64 gU)) λrA=>
 gT rA λvs=>
 gC vs λDO jz=>
 gA DO λcs=>
 I8 cs λcI L=>
 Fo jz λx x1=>
 aW (!decide (x1=0)) (
 some (.fb (.cg []) (aB dj cK eO dF jf dv nw iq fe ek cv cb gU dk mL x1 eA cL eB lA))) (
 aV x λlen=>
 bd (Loop (λJg=>
 gC Jg λm25 Qv=>
 gI .i64 m25 λx2=>
 a8 Qv λx3 x4 x5 x6 x7 x8 x9 qq rW zw zx CY Bh DF DG DH Fm Mq O8 xs=>
 aW (decide (x2<(len:Int))) (
 idx x x2 λy=>
 gI .i64 y λVd=>
 bd (li (aB x3 x4 x5 x6 x7 x8 x9 qq rW zw zx CY Bh DF DG DH Fm Mq O8 xs) (.i .i64 Vd)) λaT=>
 gW aT λx23 ls=>
 a8 ls λmn ll qR ny vS nz Cd vT uc qS lm ln vU nA Ce xE1 qT mM qU pT=>
 some (.inl [.i .i64 (c9 .i64 (x2+1)),.list mn,.i .i64 ll,.list qR,.list ny,.list vS,.i .i64 nz,.i .i64 Cd,.i .i64 vT,.s uc,.s qS,.i .i64 lm,.i .i64 ln,.i .i64 vU,.i .i64 nA,.i .i64 Ce,.i .i64 xE1,.s qT,.i .i64 mM,.list qU,.list pT])) (
 some (.inr (2,(aB x3 x4 x5 x6 x7 x8 x9 qq rW zw zx CY Bh DF DG DH Fm Mq O8 xs))))) [.i .i64 0,.list dj,.i .i64 cI,.list L,.list dF,.list jf,.i .i64 dv,.i .i64 nw,.i .i64 iq,.s fe,.s ek,.i .i64 cv,.i .i64 cb,.i .i64 gU,.i .i64 dk,.i .i64 mL,.i .i64 x1,.s eA,.i .i64 cI,.list eB,.list lA]) λp=>
 bP (sh p.1 2)<|
 dr .i64 .i64 .i64 .i64 .i64 .i64 .i64 .i64 .i64 .i64 .i64 p.2 λx24 x25 x26 x27 x28 x29 x30 x31 x32 x33 x34 x35 x36 x37 x38 x39 x40 x41 x42 zy=>
 some (.fb (.cg []) (aB x24 x25 x26 x27 x28 x29 x30 x31 x32 x33 x34 x35 x36 x37 x38 x39 x40 x41 x42 zy)))
def y8:GT:=bt 114 (WX nP) JA
theorem BU:SG y8:=RV JB 0 kp [] [(0,1000000)] 50 [] [33] [(1,[2])] [(0,[0,1,2,3,4,5,6,7,8,9,10,11,12,13,14,15,16,17,18]),(3,[0,1,2,3,4,5,6,7,8,9,10,11,12])] [] [] [(5,⟨[0,40,41],[],[(42,.sc (.k (.i .i64))),(1000000,.box [.k .l,.k (.i .i64),.k .l,.k .l,.k .l,.k (.i .i64),.k (.i .i64),.k (.i .i64),.k .s,.k .s,.k (.i .i64),.k (.i .i64),.k (.i .i64),.k (.i .i64),.k (.i .i64),.k (.i .i64),.k .s,.k (.i .i64),.k .l,.own 2000019 77 false])],[(2,[(1000000,.box [.k .l,.k (.i .i64),.k .l,.k .l,.k .l,.k (.i .i64),.k (.i .i64),.k (.i .i64),.k .s,.k .s,.k (.i .i64),.k (.i .i64),.k (.i .i64),.k (.i .i64),.k (.i .i64),.k (.i .i64),.k .s,.k (.i .i64),.k .l,.own 2000019 77 false])])],[]⟩)] [] Tryz.func114 (by kernel_rfl) (by kernel_rfl) (tT λ_=>by kernel_rfl)
def iB (sA v:MV):Option MV:=gL sA λkZ=>
 gA v λcs=>
 Ai cs λPath Client Kids=>
 aV kZ λlen=>
 bd (Loop (λnd=>
 gC nd λm3 n6=>
 gI .i64 m3 λx=>
 gN n6<|
 aW (decide (x<(len:Int))) (
 idx kZ x λy=>
 gA y λdU=>
 Ai dU λew bZ Gk=>
 aW ((decide (Path=ew))&&((decide (Client=bZ))&&(decide (Kids=Gk)))) (
 some (.inr (1,[.i .i64 x]))) (
 some (.inl [.i .i64 (c9 .i64 (x+1))]))) (
 some (.inr (2,[])))) [.i .i64 0]) λp=>
 aW (sh p.1 2) (
 gN p.2<|
 some (.i .i64 (-1))) (
 bP (sh p.1 1)<|
 gC p.2 λm7 kc=>
 gI .i64 m7 λx1=>
 gN kc<|
 some (.i .i64 x1))
def pC:GT:=bt 250 (dy iB) y8
theorem ug:SG pC:=sn BU [] [] 19 [] [] [] [(4,[0,1,2,3,4,5])] [] [] [(2,⟨[0,3,7],[],[(8,.sc (.k (.i .i64)))],[(1,[(4,.sc (.k (.i .i64)))]),(2,[])],[]⟩)] [] Tryz.func250 (by kernel_rfl) (bg (λ_ _=>by kernel_rfl))
def fL (sA v:MV):Option MV:=gL sA λkZ=>
 gA v λcs=>
 Ai cs λPath Client Kids=>
 bd (iB (.list kZ) (.agg [.s Path,.i .i64 Client,.b Kids])) λrA=>
 gI .i64 rA λx=>
 some (.b (decide ((0:Int)<=x)))
def mV:GT:=bt 229 (dy fL) pC
theorem rF:SG mV:=kO ug [] 9 [] [] [] Tryz.func229 (by kernel_rfl) (bg (λ_ _=>by kernel_rfl))
def Bo (t w:MV):Option MV:=gA t λcs=>
 gC cs λm fg=>
 gL m λL=>
 gN fg<|
 gA w λdU=>
 Ai dU λPath Client Kids=>
 bd (ml (.s Path)) λrA=>
 gB rA λx=>
 aW (!x) (
 some (.cg [.agg [.list L],.i .i64 13])) (
 aW (decide (Client<0)) (
 some (.cg [.agg [.list L],.i .i64 1])) (
 bd (fL (.list L) (.agg [.s Path,.i .i64 Client,.b Kids])) λaT=>
 gB aT λx1=>
 aW x1 (
 some (.cg [.agg [.list L],.i .i64 0])) (
 aV L λlen=>
 aW (decide ((200:Int)<=(len:Int))) (
 some (.cg [.agg [.list L],.i .i64 9])) (
 both (
 bd (iv 3 32 [.list L]) λcf=>
 gF cf λxs=>
 aV xs λcX=>
 aV ([.agg [.s Path,.i .i64 Client,.b Kids]]:List MV) λdz=>
 bP (decide ((cX+dz) *32<=2^46))<|
 some (.cg [.agg [.list (xs++([.agg [.s Path,.i .i64 Client,.b Kids]]:List MV))],.i .i64 0])) (
 bd (iv 3 32 [.list L]) λfH=>
 gF fH λzy=>
 aV zy λiR=>
 aV ([.agg [.s Path,.i .i64 Client,.b Kids]]:List MV) λkj=>
 bP (decide ((iR+kj) *32<=2^46))<|
 some (.cg [.agg [.list (zy++([.agg [.s Path,.i .i64 Client,.b Kids]]:List MV))],.i .i64 0]))))))
def Mv:GT:=bt 181 (dy Bo) mV
theorem K9:SG Mv:=sn rF [] [] 36 [33] [] [] [(9,[0,1,3,2,4,5,6,7,8,0,1,3,4,2,5,6,7,8,2,4])] [] [] [] [] Tryz.func181 (by kernel_rfl) (bg (λ_ _=>by kernel_rfl))
def mP (w:List MV):Option MV:=a8 w λdj cK eO dF jf dv nw iq fe ek cv cb gU dk mL xE eA cL eB lA=>
 bd (Bo (.agg [.list dF]) (.agg [.s fe,.i .i64 dv,.b (decide (iq=11))])) λrA=>
 gT rA λvs=>
 gC vs λDO jz=>
 gA DO λcs=>
 gC cs λK3 ru=>
 gL K3 λL=>
 gN ru<|
 gC jz λTe pq=>
 gI .i64 Te λx=>
 gN pq<|
 some (.fb (.cg []) (aB dj cK eO L jf dv nw iq fe ek cv cb gU dk mL x eA cL eB lA))
def xb:GT:=bt 115 (WX mP) Mv
theorem Ax:SG xb:=RV K9 0 kp [] [(0,1000000)] 38 [] [] [] [(0,[0,1,2,3,4,5,6,7,8,9,10,11,12,13,14,15,16,17,18]),(1,[0,1,2,3,4,5,6,7,8,9,10,11,12,13,14,15,16,17,18,19])] [] [] [] [] Tryz.func115 (by kernel_rfl) (by kernel_rfl) (tT λ_=>by kernel_rfl)
def yp:Option MV:=some (.list ([.func 105 [],.func 106 [],.func 107 [],.func 108 [],.func 109 [],.func 110 [],.func 111 [],.func 112 [],.func 113 [],.func 114 [],.func 115 [],.func 115 []]:List MV))
def JC:GT:=bt 59 (NG yp) xb
theorem JD:SG JC:=sn Ax [] [] 2 [1] [] [] [] [] [] [] [] Tryz.func59 (by kernel_rfl) (xR (by kernel_rfl))
def qV (c w:MV):Option MV:=gA c λcs=>
 gC cs λm fg=>
 gI .i64 m λKind=>
 gC fg λm1 eg=>
 gS m1 λPath=>
 gN eg<|
 gA w λdU=>
 Ai dU λew Client Kids=>
 bd (
 aW (decide (Kind<1)) (
 some [.b true]) (
 aW (decide ((3:Int)<Kind)) (
 some [.b true]) (
 bd (ml (.s Path)) λrA=>
 gB rA λx=>
 some [.b (!x)]))) λvs=>
 gC vs λm5 ka=>
 gB m5 λx1=>
 gN ka<|
 aW x1 (
 some (.b false)) (
 aW (!Kids) (
 some (.b (decide (Path=ew)))) (
 bd (rD (.s Path)) λaT=>
 gT aT λjJ=>
 gC jJ λm6 kG=>
 gS m6 λx2=>
 gC kG λm7 kb=>
 gI .i64 m7 λx3=>
 gN kb<|
 bd (
 aW (decide (x3=0)) (
 aW (!decide (Kind=2)) (
 some [.b (decide (x2=ew))]) (
 some [.b false])) (
 some [.b false])) λpP=>
 gC pP λm8 kc=>
 gB m8 λx4=>
 gN kc<|
 some (.b x4)))
def qW:GT:=bt 27 (dy qV) JC
theorem DZ:SG qW:=kO JD [] 48 [(6,⟨[2,3,5,6],[],[],[(0,[(4,.sc (.k .b))])],[]⟩),(1,⟨[2,3],[],[],[(0,[(20,.sc (.k .b))])],[]⟩)] [] [] Tryz.func27 (by kernel_rfl) (bg (λ_ _=>by kernel_rfl))
def Cg:Ctx:=WL qW [(2,1000002)] 17 [14] [] [] [] [] [(3,⟨[1,2,3,5],[],[],[(0,[(1000002,.box [.own 2000000 79 false])])],[]⟩)] [] []
def pD (w:MV)(c:MV)(c1:List MV):Option MV:=gA w λcs=>
 Ai cs λPath Client Kids=>
 gP c λdU=>
 gC dU λm3 nd=>
 gI .i64 m3 λKind=>
 gC nd λm4 n6=>
 gS m4 λew=>
 gN n6<|
 gC c1 λm5 ka=>
 gL m5 λx=>
 gN ka<|
 bd (qV (.agg [.i .i64 Kind,.s ew]) (.agg [.s Path,.i .i64 Client,.b Kids])) λrA=>
 gB rA λx1=>
 bd (
 aW x1 (
 aV x λlen=>
 aV ([.agg [.s Path,.i .i64 Client,.b Kids,.i .i64 Kind,.s ew]]:List MV) λcX=>
 bP (decide ((len+cX) *56<=2^46))<|
 some (0,[.list (x++([.agg [.s Path,.i .i64 Client,.b Kids,.i .i64 Kind,.s ew]]:List MV))])) (
 some (0,[.list x]))) λp=>
 bP (sh p.1 0)<|
 gC p.2 λm6 kG=>
 gL m6 λxs=>
 gN kG<|
 some (.fb (.b x1) [.list xs])
theorem G3 (w:MV)(c:MV)(c1:List MV):Ls Cg [[.i .i64,.s],[]] 2 U9 Tryz.f118 [w,c,.cell (.func 0 c1)]=pD w c c1:=by kernel_rfl
abbrev yq:List MV->Option MV:=λms=>match ms with|[a0,a1,.cell (.func off a2)]=>(match sh off 0 with|true=>pD a0 a1 a2|false=>none)|_=>none
theorem G4 {ms:List MV}{r:MV}(h:yq ms=some r): ∃c':Ctx,Dr cx c'/\c'.g=qW/\UQ c' 118 Tryz.f118 [[.i .i64,.s],[]]=true/\Ls c' [[.i .i64,.s],[]] 2 U9 Tryz.f118 ms=some r:=by
 unfold yq at h;split at h
 ·rename_i a0 a1 off a2;cases ho0:sh off 0 with
  |true=>have:=IS ho0;subst this;exact ⟨Cg,⟨rfl,rfl,rfl,rfl,rfl,rfl,rfl,rfl,rfl⟩,rfl,by kernel_rfl,(G3 _ _ _).trans h⟩
  |false=>
  rw [ho0] at h;simp only at h;cases h
 ·cases h
def yr:GT:=bt 118 yq qW
theorem Fv:SG yr:=DZ.RV (pos:=2) (ks:=U9) (cE:=[[.i .i64,.s],[]]) po U4 U8 Va xX Ht Tryz.func118 (by kernel_rfl) (λ_=>rfl) G4
def D5:GT:=yr
theorem yt (x0:MV)(x1:MV)(x2:List MV):D5 118 [x0,x1,.cell (.func 0 x2)]=pD x0 x1 x2:=by kernel_rfl
def yu (t lA:MV):Option MV:=gA t λcs=>
 gC cs λm fg=>
 gL m λL=>
 gN fg<|
 gL lA λpT=>
 bd (iv 3 32 [.list L]) λrA=>
 gF rA λxs=>
 aV pT λlen=>
 bd (Loop (λeg=>
 GV eg λleft out x=>
 aW (decide (x<(len:Int))) (
 idx pT x λy=>
 gA y λdU=>
 gC dU λm4 ka=>
 gI .i64 m4 λKind=>
 gC ka λm5 kG=>
 gS m5 λPath=>
 gN kG<|
 bP (left.all R7)<|
 bd (nk (Lr D5 118 [.rp [.i .i64 Kind,.s Path]]) [.list out] left) λaT=>
 gC aT.2 λm6 kb=>
 gL m6 λx1=>
 gN kb<|
 some (.inl [.list aT.1,.list x1,.i .i64 (c9 .i64 (x+1))])) (
 some (.inr (2,[.list left,.list out])))) [.list xs,.list ([]:List MV),.i .i64 0]) λp=>
 bP (sh p.1 2)<|
 O7 p.2 λaaT jy=>
 some (.cg [.agg [.list aaT],.list jy])
def CH:GT:=bt 60 (dy yu) yr
theorem JE:SG CH:=sn Fv [] [] 26 [] [25] [(8,[7])] [(8,[0,1,2,3,4])] [] [] [(4,⟨[4,13,14],[],[(6,.sc (.own 12 75 false)),(7,.box [.own 2000000 79 false]),(15,.sc (.k (.i .i64)))],[(2,[(6,.sc (.own 12 75 false)),(7,.box [.own 2000000 79 false])])],[]⟩)] [] Tryz.func60 (by kernel_rfl) (bg (λ_ _=>by kernel_rfl))
def dN:GT:=CH
theorem rG (x0:List MV):dN 105 [.cell (.func 0 x0)]=kI x0:=by kernel_rfl
theorem r6 (x0:List MV):dN 106 [.cell (.func 0 x0)]=lJ x0:=by kernel_rfl
theorem uH (x0:List MV):dN 107 [.cell (.func 0 x0)]=pA x0:=by kernel_rfl
theorem uI (x0:List MV):dN 108 [.cell (.func 0 x0)]=pB x0:=by kernel_rfl
theorem r7 (x0:List MV):dN 109 [.cell (.func 0 x0)]=lK x0:=by kernel_rfl
theorem uh (x0:List MV):dN 110 [.cell (.func 0 x0)]=nN x0:=by kernel_rfl
theorem ui (x0:List MV):dN 111 [.cell (.func 0 x0)]=nO x0:=by kernel_rfl
theorem sQ (x0:List MV):dN 112 [.cell (.func 0 x0)]=mN x0:=by kernel_rfl
theorem sR (x0:List MV):dN 113 [.cell (.func 0 x0)]=mO x0:=by kernel_rfl
theorem uj (x0:List MV):dN 114 [.cell (.func 0 x0)]=nP x0:=by kernel_rfl
theorem sS (x0:List MV):dN 115 [.cell (.func 0 x0)]=mP x0:=by kernel_rfl
def oJ (a a1:MV):Option MV:=gA a λcs=>
 eT cs λch bT dD cn Seen=>
 gA a1 λdU=>
 fE dU λClient Seq Kind Path Value Version Session Span=>
 bd (mK (.agg (cm ch bT dD cn Seen)) (.agg (cU Client Seq Kind Path Value Version Session Span))) λrA=>
 gT rA λvs=>
 gC vs λQp wW=>
 gA Qp λmQ=>
 cO mQ λbZ j9 E cC bF Names=>
 gC wW λDO jz=>
 gB DO λx=>
 gN jz<|
 aW x (
 some (.cg [.agg (cm ch bT dD cn Seen),.agg (bK bZ j9 E cC bF Names),.list ([]:List MV)])) (
 bd (yp) λaT=>
 gL aT λx1=>
 idx x1 Kind λy=>
 gR y λx2=>
 RX x2 λfn cap=>
 gN cap<|
 bd (KD [105,106,107,108,109,110,111,112,113,114,115] fn λk=>dN k [.cell (.func 0 (aB ch bT dD cn Seen Client Seq Kind Path Value Version Session Span bZ j9 E cC bF Names ([]:List MV)))]) λcf=>
 gW cf λx3 ls=>
 a8 ls λdj cK eO dF jf dv nw iq fe ek cv cb gU dk mL xE eA cL eB lA=>
 bd (yu (.agg [.list dF]) (.list lA)) λfH=>
 gT fH λjJ=>
 gC jJ λm41 aaU=>
 gA m41 λmE=>
 gC mE λm42 Qy=>
 gL m42 λL=>
 gN Qy<|
 gC aaU λm43 Jh=>
 gL m43 λx4=>
 gN Jh<|
 bd (iv 6 72 [.list Seen]) λn0=>
 gF n0 λxs=>
 bd (kf (.agg (cm ch bT dD cn Seen)) (.i .i64 Client)) λqn=>
 gT qn λpP=>
 U5 pP λx5 x6=>
 bd (
 aW x6 (
 idx xs x5 λy1=>
 gA y1 λN0=>
 cO N0 λyv aet E1 qv iS ke=>
 some (0,(aB dj cK eO L (xs.set (AI x5) (.agg (bK dk mL xE eA cL eB))) dv nw iq fe ek cv cb gU dk mL xE eA cL eB lA))) (
 bd (kA 72 [.fresh xs,.i .i64 x5,.fresh ([.agg (bK dk mL xE eA cL eB)]:List MV)]) λmT=>
 gF mT λzy=>
 some (0,(aB dj cK eO L zy dv nw iq fe ek cv cb gU dk mL xE eA cL eB lA)))) λp=>
 bP (sh p.1 0)<|
 dr .i64 .i64 .i64 .i64 .i64 .i64 .i64 .i64 .i64 .i64 .i64 p.2 λx7 x8 x9 qq Jd rW zw zx CY Bh DF DG DH Fm Mq O8 Vd x23 x24 X8=>
 both (
 some (.cg [.agg (cm x7 x8 x9 qq Jd),.agg (bK Fm Mq O8 Vd x23 x24),.list x4])) (
 some (.cg [.agg (cm x7 x8 x9 qq Jd),.agg (bK Fm Mq O8 Vd x23 x24),.list x4])))
def Gr:GT:=bt 18 (dy oJ) CH
theorem G5:SG Gr:=sn JE [] [] 103 [] [21] [(2,[7])] [(3,[0,1,2,3,4]),(5,[1,2,5,0,3,4,6]),(6,[0,1,2,3,4,5,6,7,8,9,10,11,12,13,14,15]),(7,[0,1,2,3,4,5,6,7,8,9,10,11,12,13]),(10,[0,1,2,3,4,5,6,7,8,9,10,11]),(11,[0,1,2,3,4,5,6,7,8,9,10,11,12,13,14,15,16]),(12,[0,1,2,3,4,5,6,8,9,7,10,11,0,1,2,3,4,5,6,7,8,9,10,11,9,7])] [] [(10,⟨[4,5,11,12],[],[],[(0,[(26,.box [.k .l,.k (.i .i64),.k .l,.k .l,.own 52 57 false,.k (.i .i64),.k (.i .i64),.k (.i .i64),.k .s,.k .s,.k (.i .i64),.k (.i .i64),.k (.i .i64),.k (.i .i64),.k (.i .i64),.k (.i .i64),.k .s,.k (.i .i64),.k .l,.own 2000019 77 true]),(9,.pt 26 0)])],[89,90,2000019]⟩)] [] [105,106,107,108,109,110,111,112,113,114,115] Tryz.func18 (by kernel_rfl) (bg (λ_ _=>by kernel_rfl))
def Bp:Option MV:=some (.agg [.list ([.agg (fc ([47]:List UInt8) ([]:List UInt8) 0 0)]:List MV)])
def Mw:GT:=bt 71 (NG Bp) Gr
theorem La:SG Mw:=kO G5 [] 4 [] [] [] Tryz.func71 (by kernel_rfl) (xR (by kernel_rfl))
def Bq:Option MV:=some (.agg [.i .i64 0,.list ([]:List MV)])
def Mx:GT:=bt 72 (NG Bq) Mw
theorem Lb:SG Mx:=kO La [] 2 [] [] [] Tryz.func72 (by kernel_rfl) (xR (by kernel_rfl))
def s8:Option MV:=bd (Bp) λrA=>
 gA rA λcs=>
 gC cs λm fg=>
 gL m λL=>
 gN fg<|
 bd (Bq) λaT=>
 gA aT λdU=>
 I8 dU λcI L1=>
 some (.agg (cm L cI L1 ([]:List MV) ([]:List MV)))
def My:GT:=bt 26 (NG s8) Mx
theorem Lc:SG My:=kO Lb [] 4 [] [] [] Tryz.func26 (by kernel_rfl) (xR (by kernel_rfl))
def jc (s1 s2:MV):Option MV:=gL s1 λtZ=>
 gL s2 λzm=>
 aV tZ λlen=>
 aV zm λcX=>
 aW (!decide ((len:Int)=(cX:Int))) (
 some (.b false)) (
 aV tZ λdz=>
 bd (Loop (λfg=>
 gC fg λm eg=>
 gI .i64 m λx=>
 gN eg<|
 aW (decide (x<(dz:Int))) (
 idx tZ x λy=>
 gA y λcs=>
 gx cs λPath Value Version b5=>
 idx zm x λy1=>
 gA y1 λdU=>
 gx dU λew cC bF rZ=>
 aW (!((decide (Path=ew))&&((decide (Value=cC))&&((decide (Version=bF))&&(decide (b5=rZ)))))) (
 some (.inr (1,[.b false]))) (
 some (.inl [.i .i64 (c9 .i64 (x+1))]))) (
 some (.inr (2,[])))) [.i .i64 0]) λp=>
 aW (sh p.1 2) (
 gN p.2<|
 some (.b true)) (
 bP (sh p.1 1)<|
 gC p.2 λm9 lc=>
 gB m9 λx1=>
 gN lc<|
 some (.b x1)))
def pY:GT:=bt 139 (dy jc) My
theorem uJ:SG pY:=sn Lc [] [] 26 [] [] [] [(6,[0,1,2,3,4,5,6,7,8])] [] [] [(4,⟨[0,1,12],[],[(13,.sc (.k (.i .i64)))],[(1,[(4,.sc (.k .b))]),(2,[])],[]⟩)] [] Tryz.func139 (by kernel_rfl) (bg (λ_ _=>by kernel_rfl))
def yw (a b:MV):Option MV:=gA a λcs=>
 gC cs λm fg=>
 gL m λL=>
 gN fg<|
 gA b λdU=>
 gC dU λm1 eg=>
 gL m1 λL1=>
 gN eg<|
 bd (jc (.list L) (.list L1)) λrA=>
 gB rA λx=>
 some (.b x)
def JF:GT:=bt 76 (dy yw) pY
theorem JG:SG JF:=kO uJ [] 10 [] [] [] Tryz.func76 (by kernel_rfl) (bg (λ_ _=>by kernel_rfl))
def fY (s1 s2:MV):Option MV:=gL s1 λtZ=>
 gL s2 λzm=>
 aV tZ λlen=>
 aV zm λcX=>
 aW (!decide ((len:Int)=(cX:Int))) (
 some (.b false)) (
 aV tZ λdz=>
 bd (Loop (λfg=>
 gC fg λm eg=>
 gI .i64 m λx=>
 gN eg<|
 aW (decide (x<(dz:Int))) (
 idx tZ x λy=>
 gA y λcs=>
 xY cs λId Span dX=>
 idx zm x λy1=>
 gA y1 λdU=>
 xY dU λVe pU tX=>
 aW (!((decide (Id=Ve))&&((decide (Span=pU))&&(decide (dX=tX))))) (
 some (.inr (1,[.b false]))) (
 some (.inl [.i .i64 (c9 .i64 (x+1))]))) (
 some (.inr (2,[])))) [.i .i64 0]) λp=>
 aW (sh p.1 2) (
 gN p.2<|
 some (.b true)) (
 bP (sh p.1 1)<|
 gC p.2 λm7 kc=>
 gB m7 λx1=>
 gN kc<|
 some (.b x1)))
def nB:GT:=bt 140 (dy fY) JF
theorem r8:SG nB:=sn JG [] [] 26 [] [] [] [(6,[0,1,2,3,4,5,6,7,8])] [] [] [(4,⟨[0,1,12],[],[(13,.sc (.k (.i .i64)))],[(1,[(4,.sc (.k .b))]),(2,[])],[]⟩)] [] Tryz.func140 (by kernel_rfl) (bg (λ_ _=>by kernel_rfl))
def yx (a b:MV):Option MV:=gA a λcs=>
 I8 cs λcI L=>
 gA b λdU=>
 I8 dU λaiy L1=>
 bd (
 aW (decide (cI=aiy)) (
 bd (fY (.list L) (.list L1)) λrA=>
 gB rA λx=>
 some [.b x]) (
 some [.b false])) λvs=>
 gC vs λm4 n6=>
 gB m4 λx1=>
 gN n6<|
 some (.b x1)
def JH:GT:=bt 77 (dy yx) nB
theorem JI:SG JH:=kO r8 [] 17 [(1,⟨[2,3],[],[],[(0,[(4,.sc (.k .b))])],[]⟩)] [] [] Tryz.func77 (by kernel_rfl) (bg (λ_ _=>by kernel_rfl))
def iC (s1 s2:MV):Option MV:=gL s1 λtZ=>
 gL s2 λzm=>
 aV tZ λlen=>
 aV zm λcX=>
 aW (!decide ((len:Int)=(cX:Int))) (
 some (.b false)) (
 aV tZ λdz=>
 bd (Loop (λfg=>
 gC fg λm eg=>
 gI .i64 m λx=>
 gN eg<|
 aW (decide (x<(dz:Int))) (
 idx tZ x λy=>
 gA y λcs=>
 Ai cs λPath Client Kids=>
 idx zm x λy1=>
 gA y1 λdU=>
 Ai dU λew bZ Gk=>
 aW (!((decide (Path=ew))&&((decide (Client=bZ))&&(decide (Kids=Gk))))) (
 some (.inr (1,[.b false]))) (
 some (.inl [.i .i64 (c9 .i64 (x+1))]))) (
 some (.inr (2,[])))) [.i .i64 0]) λp=>
 aW (sh p.1 2) (
 gN p.2<|
 some (.b true)) (
 bP (sh p.1 1)<|
 gC p.2 λm7 kc=>
 gB m7 λx1=>
 gN kc<|
 some (.b x1)))
def pE:GT:=bt 141 (dy iC) JH
theorem uk:SG pE:=sn JI [] [] 26 [] [] [] [(6,[0,1,2,3,4,5,6,7,8])] [] [] [(4,⟨[0,1,12],[],[(13,.sc (.k (.i .i64)))],[(1,[(4,.sc (.k .b))]),(2,[])],[]⟩)] [] Tryz.func141 (by kernel_rfl) (bg (λ_ _=>by kernel_rfl))
def yy (a b:MV):Option MV:=gA a λcs=>
 gC cs λm fg=>
 gL m λL=>
 gN fg<|
 gA b λdU=>
 gC dU λm1 eg=>
 gL m1 λL1=>
 gN eg<|
 bd (iC (.list L) (.list L1)) λrA=>
 gB rA λx=>
 some (.b x)
def JJ:GT:=bt 78 (dy yy) pE
theorem JK:SG JJ:=kO uk [] 10 [] [] [] Tryz.func78 (by kernel_rfl) (bg (λ_ _=>by kernel_rfl))
def yz (a b:MV):Option MV:=gA a λcs=>
 cO cs λClient Seq E Value Version Names=>
 gA b λdU=>
 cO dU λbZ j9 E1 cC bF ke=>
 bd (
 aW (decide (Client=bZ)) (
 aW (decide (Seq=j9)) (
 aW (decide (E=E1)) (
 aW (decide (Value=cC)) (
 aW (decide (Version=bF)) (
 bd (iT (.list Names) (.list ke)) λrA=>
 gB rA λx=>
 some [.b x]) (
 some [.b false])) (
 some [.b false])) (
 some [.b false])) (
 some [.b false])) (
 some [.b false])) λvs=>
 gC vs λm12 Ar=>
 gB m12 λx1=>
 gN Ar<|
 some (.b x1)
def CI:GT:=bt 80 (dy yz) JJ
theorem JL:SG CI:=kO JK [] 45 [(1,⟨[2,3],[],[],[(0,[(4,.sc (.k .b))])],[]⟩)] [] [] Tryz.func80 (by kernel_rfl) (bg (λ_ _=>by kernel_rfl))
def cV:GT:=CI
theorem fZ (x0 x1:MV):cV 80 [x0,x1]=yz x0 x1:=by kernel_rfl
def cj (s1 s2 eq:MV):Option MV:=gL s1 λtZ=>
 gL s2 λzm=>
 gR eq λeq1=>
 aV tZ λlen=>
 aV zm λcX=>
 aW (!decide ((len:Int)=(cX:Int))) (
 some (.b false)) (
 aV tZ λdz=>
 bd (Loop (λfg=>
 gC fg λm eg=>
 gI .i64 m λx=>
 gN eg<|
 aW (decide (x<(dz:Int))) (
 idx tZ x λy=>
 gA y λcs=>
 cO cs λClient Seq E Value Version Names=>
 idx zm x λy1=>
 gA y1 λdU=>
 cO dU λbZ j9 E1 cC bF ke=>
 RX eq1 λfn cap=>
 bP (!gv fn)<|
 bd (cV fn ([.agg (bK Client Seq E Value Version Names),.agg (bK bZ j9 E1 cC bF ke)]++cap)) λrA=>
 gB rA λx1=>
 aW (!x1) (
 some (.inr (1,[.b false]))) (
 some (.inl [.i .i64 (c9 .i64 (x+1))]))) (
 some (.inr (2,[])))) [.i .i64 0]) λp=>
 aW (sh p.1 2) (
 gN p.2<|
 some (.b true)) (
 bP (sh p.1 1)<|
 gC p.2 λQp DY=>
 gB Qp λx2=>
 gN DY<|
 some (.b x2)))
def eF:GT:=bt 79 (GS cj) CI
theorem iL:SG eF:=kO JL [] 32 [] [] [(4,⟨[1,2,15,16],[],[(17,.sc (.k (.i .i64)))],[(1,[(6,.sc (.k .b))]),(2,[])],[]⟩)] Tryz.func79 (by kernel_rfl) (qN (λ_ _ _=>by kernel_rfl))
def ul (a b:MV):Option MV:=gA a λcs=>
 eT cs λch bT dD cn Seen=>
 gA b λdU=>
 eT dU λjd gG mq jE sr=>
 bd (
 bd (yw (.agg [.list ch]) (.agg [.list jd])) λrA=>
 gB rA λx=>
 aW x (
 bd (yx (.agg [.i .i64 bT,.list dD]) (.agg [.i .i64 gG,.list mq])) λaT=>
 gB aT λx1=>
 aW x1 (
 bd (yy (.agg [.list cn]) (.agg [.list jE])) λcf=>
 gB cf λx2=>
 aW x2 (
 bd (cj (.list Seen) (.list sr) (.func 80 [])) λfH=>
 gB fH λx3=>
 some [.b x3]) (
 some [.b false])) (
 some [.b false])) (
 some [.b false])) λvs=>
 gC vs λQo lc=>
 gB Qo λx4=>
 gN lc<|
 some (.b x4)
def JM:GT:=bt 34 (dy ul) eF
theorem JN:SG JM:=kO iL [] 31 [(1,⟨[2,3],[],[],[(0,[(4,.sc (.k .b))])],[]⟩)] [] [] Tryz.func34 (by kernel_rfl) (bg (λ_ _=>by kernel_rfl))
def xc:Option MV:=bd (s8) λrA=>
 gA rA λcs=>
 eT cs λch bT dD cn Seen=>
 bd (oJ (.agg (cm ch bT dD cn Seen)) (.agg (cU 1 1 1 ([47,97]:List UInt8) ([120]:List UInt8) 0 0 0))) λaT=>
 gT aT λvs=>
 gC vs λm5 ka=>
 gA m5 λdU=>
 eT dU λjd gG mq jE sr=>
 gC ka λTb wU=>
 gA Tb λmQ=>
 cO mQ λClient Seq E Value Version Names=>
 gC wU λm18 wT=>
 gL m18 λx=>
 gN wT<|
 bd (oJ (.agg (cm jd gG mq jE sr)) (.agg (cU 1 1 1 ([47,97]:List UInt8) ([120]:List UInt8) 0 0 0))) λcf=>
 gT cf λjJ=>
 gC jJ λm19 DI=>
 gA m19 λmE=>
 eT mE λHw D6 N4 Hx Vg=>
 gC DI λm25 Jg=>
 gA m25 λN0=>
 cO N0 λbZ j9 E1 cC bF ke=>
 gC Jg λm32 aaV=>
 gL m32 λx1=>
 gN aaV<|
 bd (tV (.agg (cm Hw D6 N4 Hx Vg)) (.i .i64 1)) λfH=>
 gT fH λpP=>
 gC pP λm33 Qz=>
 gA m33 λWZ=>
 cO WZ λyv aet E2 qv iS aiz=>
 gC Qz λm40 DU=>
 gB m40 λx2=>
 gN DU<|
 bd (
 aW (decide (E=0)) (
 aW (decide (E1=0)) (
 aV jd λlen=>
 aW (decide ((len:Int)=2)) (
 bd (ul (.agg (cm jd gG mq jE sr)) (.agg (cm Hw D6 N4 Hx Vg))) λn0=>
 gB n0 λx3=>
 aW x3 (
 aW x2 (
 some [.b (decide (aet=1))]) (
 some [.b false])) (
 some [.b false])) (
 some [.b false])) (
 some [.b false])) (
 some [.b false])) λWY=>
 gC WY λm41 aaU=>
 gB m41 λx4=>
 gN aaU<|
 some (.b x4)
def Mz:GT:=bt 17 (NG xc) JM
theorem Ld:SG Mz:=sn JN [] [] 58 [] [] [] [(2,[1,0,2,3,4,5,6,7,8,9,10,11])] [(5,⟨[2,3,5,6,8,9],[],[],[(0,[(0,.sc (.k .b))])],[]⟩)] [] [] [] Tryz.func17 (by kernel_rfl) (xR (by kernel_rfl))
def D7 (kind:MV):Option MV:=gI .i64 kind λpX=>
 aW (decide (pX=1)) (
 some (.s ([112,118,115]:List UInt8))) (
 bd (
 aW (decide (pX=2)) (
 some (0,[.b (decide (pX=2))])) (
 bd (
 aW (decide (pX=5)) (
 some (0,[.b (decide (pX=5))])) (
 bd (
 aW (decide (pX=10)) (
 some (0,[.b (decide (pX=10))])) (
 some (0,[.b (decide (pX=11))]))) λp2=>
 bP (sh p2.1 0)<|
 gC p2.2 λm fg=>
 gB m λx=>
 gN fg<|
 some (0,[.b x]))) λp1=>
 bP (sh p1.1 0)<|
 gC p1.2 λm1 eg=>
 gB m1 λx1=>
 gN eg<|
 some (0,[.b x1]))) λp=>
 bP (sh p.1 0)<|
 gC p.2 λm2 jg=>
 gB m2 λx2=>
 gN jg<|
 aW x2 (
 some (.s ([112]:List UInt8))) (
 aW (decide (pX=3)) (
 some (.s ([112,118,110]:List UInt8))) (
 aW (decide (pX=4)) (
 some (.s ([112,110]:List UInt8))) (
 aW (decide (pX=6)) (
 some (.s ([115,116]:List UInt8))) (
 bd (
 aW (decide (pX=7)) (
 some (0,[.b (decide (pX=7))])) (
 some (0,[.b (decide (pX=8))]))) λp3=>
 bP (sh p3.1 0)<|
 gC p3.2 λm3 nd=>
 gB m3 λx3=>
 gN nd<|
 aW x3 (
 some (.s ([115]:List UInt8))) (
 aW (decide (pX=9)) (
 some (.s ([116]:List UInt8))) (
 some (.s ([]:List UInt8)))))))))
def QA:GT:=bt 124 (nX D7) Mz
theorem N5:SG QA:=kO Ld [] 22 [] [(16,⟨[3],[],[],[(0,[(17,.sc (.k .b))])],[]⟩),(7,⟨[3],[],[],[(0,[(6,.sc (.k .b))])],[]⟩),(6,⟨[3],[],[],[(0,[(6,.sc (.k .b))])],[]⟩),(5,⟨[3],[],[],[(0,[(6,.sc (.k .b))])],[]⟩)] [] Tryz.func124 (by kernel_rfl) (dP (λ_=>by kernel_rfl))
def qw (sA c:MV):Option MV:=gS sA λkZ=>
 gI .u8 c λc1=>
 bd (Loop (λfg=>
 gC fg λm eg=>
 gI .i64 m λi=>
 gN eg<|
 aW (decide (i<(kZ.length:Int))) (
 bP (decide ((0:Int)<=i/\i<(kZ.length:Int)))<|
 aW (decide (((kZ.getD (AI i) 0).toNat:Int)=c1)) (
 some (.inr (1,[.b true]))) (
 some (.inl [.i .i64 (c9 .i64 (i+1))]))) (
 some (.inr (2,[])))) [.i .i64 0]) λp=>
 aW (sh p.1 2) (
 gN p.2<|
 some (.b false)) (
 bP (sh p.1 1)<|
 gC p.2 λm1 jg=>
 gB m1 λx=>
 gN jg<|
 some (.b x))
def aaW:GT:=bt 125 (dy qw) QA
theorem Tf:SG aaW:=kO N5 [] 17 [] [] [(2,⟨[0,1],[],[(5,.sc (.k (.i .i64)))],[(1,[(4,.sc (.k .b))]),(2,[])],[]⟩)] Tryz.func125 (by kernel_rfl) (bg (λ_ _=>by kernel_rfl))
def Hy (a:MV):Option MV:=gA a λcs=>
 fE cs λClient Seq Kind Path Value Version Session Span=>
 bd (
 aW (decide (Client<0)) (
 some [.b true]) (
 aW (decide ((1000:Int)<Client)) (
 some [.b true]) (
 aW (decide (Seq<1)) (
 some [.b true]) (
 aW (decide ((1000000000:Int)<Seq)) (
 some [.b true]) (
 aW (decide (Kind<0)) (
 some [.b true]) (
 aW (decide ((11:Int)<Kind)) (
 some [.b true]) (
 aW (decide ((100:Int)<(Path.length:Int))) (
 some [.b true]) (
 some [.b (decide ((1000:Int)<(Value.length:Int)))])))))))) λvs=>
 gC vs λm8 kc=>
 gB m8 λx=>
 gN kc<|
 aW x (
 some (.b false)) (
 bd (D7 (.i .i64 Kind)) λrA=>
 gS rA λx1=>
 bd (
 bd (qw (.s x1) (.i .u8 112)) λaT=>
 gB aT λx2=>
 aW x2 (
 bd (qw (.s x1) (.i .u8 118)) λcf=>
 gB cf λx3=>
 aW x3 (
 some [.b true]) (
 some [.b (decide (Value=([]:List UInt8)))])) (
 aW (decide (Path=([]:List UInt8))) (
 bd (qw (.s x1) (.i .u8 118)) λfH=>
 gB fH λx4=>
 aW x4 (
 some [.b true]) (
 some [.b (decide (Value=([]:List UInt8)))])) (
 some [.b false]))) λjJ=>
 gC jJ λm9 rX=>
 gB m9 λx5=>
 gN rX<|
 bd (
 aW x5 (
 bd (qw (.s x1) (.i .u8 110)) λn0=>
 gB n0 λx6=>
 aW x6 (
 bd (qw (.s x1) (.i .u8 115)) λqn=>
 gB qn λx7=>
 aW x7 (
 bd (qw (.s x1) (.i .u8 116)) λmT=>
 gB mT λx8=>
 aW x8 (
 some [.b true]) (
 some [.b (decide (Span=0))])) (
 aW (decide (Session=0)) (
 bd (qw (.s x1) (.i .u8 116)) λEO=>
 gB EO λx9=>
 aW x9 (
 some [.b true]) (
 some [.b (decide (Span=0))])) (
 some [.b false]))) (
 aW (decide (Version=0)) (
 bd (qw (.s x1) (.i .u8 115)) λKU=>
 gB KU λqq=>
 aW qq (
 bd (qw (.s x1) (.i .u8 116)) λKV=>
 gB KV λrW=>
 aW rW (
 some [.b true]) (
 some [.b (decide (Span=0))])) (
 aW (decide (Session=0)) (
 bd (qw (.s x1) (.i .u8 116)) λwJ=>
 gB wJ λzw=>
 aW zw (
 some [.b true]) (
 some [.b (decide (Span=0))])) (
 some [.b false]))) (
 some [.b false]))) (
 some [.b false])) λpP=>
 gC pP λQo lc=>
 gB Qo λzx=>
 gN lc<|
 some (.b zx))
def Vh:GT:=bt 64 (nX Hy) aaW
theorem QB:SG Vh:=kO Tf [] 92 [(5,⟨[1,3,4],[],[],[(0,[(2,.sc (.k .b))])],[]⟩),(4,⟨[1,3],[],[],[(0,[(4,.sc (.k .b))])],[]⟩),(1,⟨[1],[],[],[(0,[(44,.sc (.k .b))])],[]⟩)] [] [] Tryz.func64 (by kernel_rfl) (dP (λ_=>by kernel_rfl))
def D8 (rA dK:MV):Option MV:=gA rA λcs=>
 eT cs λch bT dD cn Seen=>
 gI .i64 dK λya=>
 bd (Loop (λka=>
 gC ka λm5 kG=>
 gI .i64 m5 λx=>
 gC kG λm6 kb=>
 gI .i64 m6 λx1=>
 gC kb λm7 kc=>
 gI .i64 m7 λx2=>
 gC kc λm8 rX=>
 gS m8 λx3=>
 gC rX λm9 lc=>
 gI .i64 m9 λx4=>
 Fo lc λx5 i=>
 aV Seen λlen=>
 aW (decide (i<(len:Int))) (
 idx Seen i λy=>
 gA y λdU=>
 cO dU λClient Seq E Value Version Names=>
 aW (decide (Client=ya)) (
 idx Seen i λy1=>
 gA y1 λmQ=>
 cO mQ λbZ j9 E1 cC bF ke=>
 some (.inr (1,[.i .i64 bZ,.i .i64 j9,.i .i64 E1,.s cC,.i .i64 bF,.list ke,.b true]))) (
 some (.inl [.i .i64 x,.i .i64 x1,.i .i64 x2,.s x3,.i .i64 x4,.list x5,.i .i64 (c9 .i64 (i+1))]))) (
 some (.inr (2,(bK x x1 x2 x3 x4 x5))))) [.i .i64 0,.i .i64 0,.i .i64 0,.s ([]:List UInt8),.i .i64 0,.list ([]:List MV),.i .i64 0]) λp=>
 aW (sh p.1 2) (
 DE .i64 .i64 .i64 .i64 p.2 λx6 x7 x8 x9 qq rW=>
 some (.cg [.agg (bK 0 0 0 ([]:List UInt8) 0 ([]:List MV)),.b false])) (
 bP (sh p.1 1)<|
 gC p.2 λm30 JO=>
 gI .i64 m30 λzw=>
 gC JO λm31 aaV=>
 gI .i64 m31 λzx=>
 gC aaV λm32 Qz=>
 gI .i64 m32 λCY=>
 gC Qz λm33 JP=>
 gS m33 λBh=>
 gC JP λm34 D9=>
 gI .i64 m34 λDF=>
 O6 D9 λDG DH=>
 some (.cg [.agg (bK zw zx CY Bh DF DG),.b DH]))
def QC:GT:=bt 65 (dy D8) Vh
theorem N6:SG QC:=kO QB [] 28 [] [] [(2,⟨[1,2],[],[(4,.box [.k (.i .i64),.k (.i .i64),.k (.i .i64),.k .s,.k (.i .i64),.k .l]),(6,.sc (.k (.i .i64)))],[(1,[(4,.box [.k (.i .i64),.k (.i .i64),.k (.i .i64),.k .s,.k (.i .i64),.k .l]),(5,.sc (.k .b))]),(2,[(4,.box [.k (.i .i64),.k (.i .i64),.k (.i .i64),.k .s,.k (.i .i64),.k .l])])],[]⟩)] Tryz.func65 (by kernel_rfl) (bg (λ_ _=>by kernel_rfl))
def yA (b id:MV):Option MV:=gA b λcs=>
 I8 cs λcI L=>
 gI .i64 id λHv=>
 bd (Loop (λjg=>
 gC jg λm2 nd=>
 gI .i64 m2 λi=>
 gN nd<|
 aV L λlen=>
 aW (decide (i<(len:Int))) (
 idx L i λy=>
 gA y λdU=>
 xY dU λId Span dX=>
 aW (decide (Id=Hv)) (
 some (.inr (1,[.b true]))) (
 some (.inl [.i .i64 (c9 .i64 (i+1))]))) (
 some (.inr (2,[])))) [.i .i64 0]) λp=>
 aW (sh p.1 2) (
 gN p.2<|
 some (.b false)) (
 bP (sh p.1 1)<|
 gC p.2 λm6 kb=>
 gB m6 λx=>
 gN kb<|
 some (.b x))
def Vi:GT:=bt 185 (dy yA) QC
theorem QD:SG Vi:=kO N6 [] 21 [] [] [(2,⟨[1,2],[],[(5,.sc (.k (.i .i64)))],[(1,[(4,.sc (.k .b))]),(2,[])],[]⟩)] Tryz.func185 (by kernel_rfl) (bg (λ_ _=>by kernel_rfl))
def yB (a a1 a2 a3:MV):Option MV:=gA a λcs=>
 gC cs λm fg=>
 gL m λL=>
 gN fg<|
 gS a1 λiK=>
 gS a2 λBV=>
 gI .i64 a3 λaaX=>
 bd (oz (.s iK)) λrA=>
 gB rA λx=>
 aW (!x) (
 some (.cg [.agg [.list L],.i .i64 13])) (
 bd (Ak (.agg [.list L]) (.s iK)) λaT=>
 gI .i64 aT λx1=>
 aW (decide ((0:Int)<=x1)) (
 some (.cg [.agg [.list L],.i .i64 7])) (
 bd (qu (.s iK)) λcf=>
 gT cf λvs=>
 gC vs λm1 eg=>
 gS m1 λx2=>
 gC eg λm2 jg=>
 gI .i64 m2 λx3=>
 gN jg<|
 bd (Ak (.agg [.list L]) (.s x2)) λfH=>
 gI .i64 fH λx4=>
 aW (decide (x4<0)) (
 some (.cg [.agg [.list L],.i .i64 6])) (
 idx L x4 λy=>
 gA y λdU=>
 gx dU λPath Value Version b5=>
 aW (!decide (b5=0)) (
 some (.cg [.agg [.list L],.i .i64 10])) (
 aW (decide ((1000:Int)<(BV.length:Int))) (
 some (.cg [.agg [.list L],.i .i64 5])) (
 aW (decide (aaX<0)) (
 some (.cg [.agg [.list L],.i .i64 1])) (
 aV L λlen=>
 aW (decide ((200:Int)<=(len:Int))) (
 some (.cg [.agg [.list L],.i .i64 9])) (
 bd (Loop (λkb=>
 gC kb λm7 kc=>
 gL m7 λxs=>
 gC kc λm8 rX=>
 gB m8 λx5=>
 gC rX λm9 lc=>
 gI .i64 m9 λx6=>
 gN lc<|
 aV L λcX=>
 aW (decide (x6<(cX:Int))) (
 bd (
 aW (!x5) (
 idx L x6 λy1=>
 gA y1 λmQ=>
 gx mQ λew cC bF rZ=>
 bd (Bj (.s iK) (.s ew)) λn0=>
 gB n0 λx7=>
 some [.b x7]) (
 some [.b false])) λjJ=>
 gC jJ λm14 DN=>
 gB m14 λx8=>
 gN DN<|
 bd (
 aW x8 (
 aV xs λdz=>
 aV ([.agg (fc iK BV 0 aaX)]:List MV) λiR=>
 bP (decide ((dz+iR) *48<=2^46))<|
 some (0,[.list (xs++([.agg (fc iK BV 0 aaX)]:List MV)),.b true])) (
 some (0,[.list xs,.b x5]))) λp1=>
 bP (sh p1.1 0)<|
 O6 p1.2 λzy x9=>
 idx L x6 λy2=>
 gA y2 λmE=>
 gx mE λCf qv iS Ft=>
 aV zy λkj=>
 aV ([.agg (fc Cf qv iS Ft)]:List MV) λuD=>
 bP (decide ((kj+uD) *48<=2^46))<|
 some (.inl [.list (zy++([.agg (fc Cf qv iS Ft)]:List MV)),.b x9,.i .i64 (c9 .i64 (x6+1))])) (
 some (.inr (2,[.list xs,.b x5])))) [.list ([]:List MV),.b false,.i .i64 0]) λp=>
 bP (sh p.1 2)<|
 O6 p.2 λJd qq=>
 bd (
 aW (!qq) (
 aV Jd λCC=>
 aV ([.agg (fc iK BV 0 aaX)]:List MV) λNY=>
 bP (decide ((CC+NY) *48<=2^46))<|
 some (0,[.list (Jd++([.agg (fc iK BV 0 aaX)]:List MV))])) (
 some (0,[.list Jd]))) λp2=>
 bP (sh p2.1 0)<|
 gC p2.2 λNZ DP=>
 gL NZ λX8=>
 gN DP<|
 some (.cg [.agg [.list X8],.i .i64 0]))))))))
def JQ:GT:=bt 186 (WD yB) Vi
theorem JR:SG JQ:=sn QD [] [] 101 [83,91,97] [] [] [] [(23,⟨[1,4,8,13,14,15,16],[57],[],[(0,[(80,.sc (.k .b))])],[57]⟩)] [(28,⟨[8,14],[],[],[(0,[(13,.sc (.own 57 124 true))])],[57]⟩),(24,⟨[1,4,8,14,16],[],[],[(0,[(13,.sc (.own 57 124 true)),(15,.sc (.k .b))])],[57]⟩)] [(21,⟨[1,4,8,14],[],[(13,.sc (.own 57 124 true)),(15,.sc (.k .b)),(16,.sc (.k (.i .i64)))],[(2,[(13,.sc (.own 57 124 true)),(15,.sc (.k .b))])],[57]⟩)] [] Tryz.func186 (by kernel_rfl) (Hp (λ_ _ _ _=>by kernel_rfl))
def vp (sA p:MV):Option MV:=gA sA λcs=>
 gC cs λm fg=>
 gL m λL=>
 gN fg<|
 gS p λp1=>
 bd (oz (.s p1)) λrA=>
 gB rA λx=>
 aW (!x) (
 some (.cg [.agg (fc ([]:List UInt8) ([]:List UInt8) 0 0),.i .i64 13])) (
 bd (Ak (.agg [.list L]) (.s p1)) λaT=>
 gI .i64 aT λx1=>
 aW (decide (x1<0)) (
 some (.cg [.agg (fc ([]:List UInt8) ([]:List UInt8) 0 0),.i .i64 6])) (
 idx L x1 λy=>
 gA y λdU=>
 gx dU λPath Value Version b5=>
 some (.cg [.agg (fc Path Value Version b5),.i .i64 0])))
def Vj:GT:=bt 187 (dy vp) JQ
theorem QE:SG Vj:=kO JR [] 22 [] [] [] Tryz.func187 (by kernel_rfl) (bg (λ_ _=>by kernel_rfl))
def Hz (sA p value version:MV):Option MV:=gA sA λcs=>
 gC cs λm fg=>
 gL m λL=>
 gN fg<|
 gS p λp1=>
 gS value λua=>
 gI .i64 version λlh=>
 bd (vp (.agg [.list L]) (.s p1)) λrA=>
 gT rA λvs=>
 gC vs λm1 eg=>
 gA m1 λdU=>
 gx dU λPath Value Version b5=>
 gC eg λm6 kG=>
 gI .i64 m6 λx=>
 gN kG<|
 aW (!decide (x=0)) (
 some (.cg [.agg [.list L],.i .i64 x])) (
 bd (
 aW (!decide (lh=(-1))) (
 some [.b (!decide (lh=Version))]) (
 some [.b false])) λjJ=>
 gC jJ λm7 kb=>
 gB m7 λx1=>
 gN kb<|
 aW x1 (
 some (.cg [.agg [.list L],.i .i64 8])) (
 aW (decide ((1000:Int)<(ua.length:Int))) (
 some (.cg [.agg [.list L],.i .i64 5])) (
 aW (decide (Version=1000000000)) (
 some (.cg [.agg [.list L],.i .i64 9])) (
 bP (nS 4 L)<|
 aV ([]:List MV) λlen=>
 aV L λcX=>
 bP (decide ((len+cX) *48<=2^46))<|
 bd (Ak (.agg [.list L]) (.s p1)) λaT=>
 gI .i64 aT λx2=>
 idx (([]:List MV)++L) x2 λy=>
 gA y λmQ=>
 gx mQ λew cC bF rZ=>
 some (.cg [.agg [.list ((([]:List MV)++L).set (AI x2) (.agg (fc p1 ua (c9 .i64 (Version+1)) b5)))],.i .i64 0])))))
def Vk:GT:=bt 188 (WD Hz) Vj
theorem QF:SG Vk:=sn QE [] [] 59 [] [] [] [(11,[0,1,2,4,5,6,7,8,9,10,11,3,12,13])] [(4,⟨[1,2,3,4,8,10],[],[],[(0,[(30,.sc (.k .b))])],[]⟩)] [] [] [] Tryz.func188 (by kernel_rfl) (Hp (λ_ _ _ _=>by kernel_rfl))
def Ay (sA p:MV):Option MV:=gA sA λcs=>
 gC cs λm fg=>
 gL m λL=>
 gN fg<|
 gS p λp1=>
 bd (Loop (λeg=>
 Fo eg λout i=>
 aV L λlen=>
 aW (decide (i<(len:Int))) (
 idx L i λy=>
 gA y λdU=>
 gx dU λPath Value Version b5=>
 bd (qu (.s Path)) λrA=>
 gT rA λvs=>
 gC vs λm7 kc=>
 gS m7 λx=>
 gC kc λm8 rX=>
 gI .i64 m8 λx1=>
 gN rX<|
 bd (
 aW (decide (x1=0)) (
 some [.b (decide (x=p1))]) (
 some [.b false])) λjJ=>
 gC jJ λm9 lc=>
 gB m9 λx2=>
 gN lc<|
 bd (
 aW x2 (
 idx L i λy1=>
 gA y1 λmQ=>
 gx mQ λew cC bF rZ=>
 bd (qt (.s ew)) λaT=>
 gT aT λpP=>
 Fo pP λx3 x4=>
 aV x3 λcX=>
 idx x3 (c9 .i64 ((cX:Int)-1)) λy2=>
 gS y2 λx5=>
 aV out λdz=>
 aV ([.s x5]:List MV) λiR=>
 bP (decide ((dz+iR) *16<=2^46))<|
 some (0,[.list (out++([.s x5]:List MV))])) (
 some (0,[.list out]))) λp3=>
 bP (sh p3.1 0)<|
 gC p3.2 λm16 DR=>
 gL m16 λjy=>
 gN DR<|
 some (.inl [.list jy,.i .i64 (c9 .i64 (i+1))])) (
 some (.inr (2,[.list out])))) [.list ([]:List MV),.i .i64 0]) λp2=>
 bP (sh p2.1 2)<|
 gC p2.2 λTc wT=>
 gL Tc λDK=>
 gN wT<|
 some (.list DK)
def QG:GT:=bt 231 (dy Ay) Vk
theorem N7:SG QG:=sn QF [] [] 56 [53] [] [] [] [(6,⟨[1,2,5,6,7,8],[11],[],[(0,[(35,.sc (.k .b))])],[11]⟩)] [(7,⟨[1,2,6],[],[],[(0,[(5,.sc (.own 11 9 true))])],[11]⟩)] [(3,⟨[1,2],[],[(5,.sc (.own 11 9 true)),(6,.sc (.k (.i .i64)))],[(2,[(5,.sc (.own 11 9 true))])],[11]⟩)] [] Tryz.func231 (by kernel_rfl) (bg (λ_ _=>by kernel_rfl))
def yC (sA p version:MV):Option MV:=gA sA λcs=>
 gC cs λm fg=>
 gL m λL=>
 gN fg<|
 gS p λp1=>
 gI .i64 version λlh=>
 bd (vp (.agg [.list L]) (.s p1)) λrA=>
 gT rA λvs=>
 gC vs λm1 eg=>
 gA m1 λdU=>
 gx dU λPath Value Version b5=>
 gC eg λm6 kG=>
 gI .i64 m6 λx=>
 gN kG<|
 aW (!decide (x=0)) (
 some (.cg [.agg [.list L],.i .i64 x])) (
 aW (decide (p1=([47]:List UInt8))) (
 some (.cg [.agg [.list L],.i .i64 13])) (
 bd (
 aW (!decide (lh=(-1))) (
 some [.b (!decide (lh=Version))]) (
 some [.b false])) λjJ=>
 gC jJ λm7 kb=>
 gB m7 λx1=>
 gN kb<|
 aW x1 (
 some (.cg [.agg [.list L],.i .i64 8])) (
 bd (Ay (.agg [.list L]) (.s p1)) λaT=>
 gL aT λx2=>
 aV x2 λlen=>
 aW (decide ((0:Int)<(len:Int))) (
 some (.cg [.agg [.list L],.i .i64 10])) (
 bd (Ak (.agg [.list L]) (.s p1)) λcf=>
 gI .i64 cf λx3=>
 aV L λcX=>
 bP (decide ((0:Int)<=0/\(0:Int)<=x3/\x3<=(cX:Int)))<|
 bP (nS 4 (By (AI 0) (BY (AI x3) L)))<|
 aV ([]:List MV) λdz=>
 aV (By (AI 0) (BY (AI x3) L)) λiR=>
 bP (decide ((dz+iR) *48<=2^46))<|
 bP (nS 4 L)<|
 aV L λkj=>
 bP (decide ((0:Int)<=(c9 .i64 (x3+1))/\(c9 .i64 (x3+1))<=(kj:Int)/\(kj:Int)<=(kj:Int)))<|
 bP (nS 4 (By (AI (c9 .i64 (x3+1))) (BY (AI (kj:Int)) L)))<|
 aV (([]:List MV)++(By (AI 0) (BY (AI x3) L))) λuD=>
 aV (By (AI (c9 .i64 (x3+1))) (BY (AI (kj:Int)) L)) λCC=>
 bP (decide ((uD+CC) *48<=2^46))<|
 some (.cg [.agg [.list ((([]:List MV)++(By (AI 0) (BY (AI x3) L)))++(By (AI (c9 .i64 (x3+1))) (BY (AI (kj:Int)) L)))],.i .i64 0])))))
def JS:GT:=bt 189 (GS yC) QG
theorem JT:SG JS:=kO N7 [] 58 [(6,⟨[1,2,3,6,8],[],[],[(0,[(32,.sc (.k .b))])],[43]⟩)] [] [] Tryz.func189 (by kernel_rfl) (qN (λ_ _ _=>by kernel_rfl))
def Ea (sA p:MV):Option MV:=gA sA λcs=>
 gC cs λm fg=>
 gL m λL=>
 gN fg<|
 gS p λp1=>
 bd (vp (.agg [.list L]) (.s p1)) λrA=>
 gT rA λvs=>
 gC vs λm1 eg=>
 gA m1 λdU=>
 gx dU λPath Value Version b5=>
 gC eg λm6 kG=>
 gI .i64 m6 λx=>
 gN kG<|
 aW (!decide (x=0)) (
 some (.cg [.list ([]:List MV),.i .i64 x])) (
 bd (Ay (.agg [.list L]) (.s p1)) λaT=>
 gL aT λx1=>
 some (.cg [.list x1,.i .i64 0]))
def QH:GT:=bt 190 (dy Ea) JS
theorem N8:SG QH:=kO JT [] 20 [] [] [] Tryz.func190 (by kernel_rfl) (bg (λ_ _=>by kernel_rfl))
def vq (a a1:MV):Option MV:=gA a λcs=>
 eT cs λch bT dD cn Seen=>
 gA a1 λdU=>
 fE dU λClient Seq Kind Path Value Version Session Span=>
 bd (
 aW (decide (Kind=1)) (
 bd (
 aW (!decide (Session=0)) (
 aW (decide (Session<0)) (
 some [.b true]) (
 bd (yA (.agg [.i .i64 bT,.list dD]) (.i .i64 Session)) λrA=>
 gB rA λx=>
 some [.b (!x)])) (
 some [.b false])) λvs=>
 gC vs λQp wW=>
 gB Qp λx1=>
 gN wW<|
 bd (
 aW x1 (
 some (0,[.list ch,.i .i64 bT,.list dD,.list cn,.list Seen,.i .i64 0,.i .i64 0,.i .i64 14,.s ([]:List UInt8),.i .i64 0,.list ([]:List MV)])) (
 bd (yB (.agg [.list ch]) (.s Path) (.s Value) (.i .i64 Session)) λaT=>
 gT aT λjJ=>
 gC jJ λm14 DY=>
 gA m14 λmQ=>
 gC mQ λm15 DN=>
 gL m15 λL=>
 gN DN<|
 gC DY λm16 QI=>
 gI .i64 m16 λx2=>
 gN QI<|
 some (0,[.list L,.i .i64 bT,.list dD,.list cn,.list Seen,.i .i64 0,.i .i64 0,.i .i64 x2,.s ([]:List UInt8),.i .i64 0,.list ([]:List MV)]))) λp1=>
 bP (sh p1.1 0)<|
 gC p1.2 λTc DR=>
 gL Tc λx3=>
 gC DR λm18 wT=>
 gI .i64 m18 λx4=>
 gC wT λm19 DI=>
 gL m19 λx5=>
 gC DI λDO jz=>
 gL DO λx6=>
 gC jz λK3 ru=>
 gL K3 λx7=>
 cO ru λx8 x9 qq rW zw zx=>
 some (0,(iI x3 x4 x5 x6 x7 x8 x9 qq rW zw zx 1))) (
 bd (
 aW (decide (Kind=2)) (
 bd (vp (.agg [.list ch]) (.s Path)) λcf=>
 gT cf λpP=>
 gC pP λm28 DT=>
 gA m28 λmE=>
 gx mE λew cC bF b5=>
 gC DT λm33 Qz=>
 gI .i64 m33 λCY=>
 gN Qz<|
 some (0,(iI ch bT dD cn Seen 0 0 CY cC bF ([]:List MV) 0))) (
 bd (
 aW (decide (Kind=3)) (
 bd (Hz (.agg [.list ch]) (.s Path) (.s Value) (.i .i64 Version)) λfH=>
 gT fH λWY=>
 gC WY λm34 JP=>
 gA m34 λN0=>
 gC N0 λm35 D9=>
 gL m35 λL1=>
 gN D9<|
 gC JP λm36 DQ=>
 gI .i64 m36 λBh=>
 gN DQ<|
 bd (
 aW (decide (Bh=0)) (
 bd (vp (.agg [.list L1]) (.s Path)) λn0=>
 gT n0 λvs4=>
 gC vs4 λm37 tU=>
 gA m37 λWZ=>
 gx WZ λCf qv iS rZ=>
 gC tU λm42 Qy=>
 gI .i64 m42 λDF=>
 gN Qy<|
 some (0,(bK 0 0 Bh ([]:List UInt8) iS ([]:List MV)))) (
 some (0,(bK 0 0 Bh ([]:List UInt8) 0 ([]:List MV))))) λp4=>
 bP (sh p4.1 0)<|
 DE .i64 .i64 .i64 .i64 p4.2 λDG DH Fm Mq O8 Vd=>
 some (0,(iI L1 bT dD cn Seen DG DH Fm Mq O8 Vd 2))) (
 bd (
 aW (decide (Kind=4)) (
 bd (yC (.agg [.list ch]) (.s Path) (.i .i64 Version)) λqn=>
 gT qn λvs5=>
 gC vs5 λm49 aaY=>
 gA m49 λcs6=>
 gC cs6 λm50 amc=>
 gL m50 λL2=>
 gN amc<|
 gC aaY λm51 amd=>
 gI .i64 m51 λx23=>
 gN amd<|
 some (0,(iI L2 bT dD cn Seen 0 0 x23 ([]:List UInt8) 0 ([]:List MV) 3))) (
 bd (
 aW (decide (Kind=5)) (
 bd (Ea (.agg [.list ch]) (.s Path)) λmT=>
 gT mT λvs6=>
 Fo vs6 λx24 x25=>
 some (0,(bK 0 0 x25 ([]:List UInt8) 0 x24))) (
 some (0,(bK 0 0 0 ([]:List UInt8) 0 ([]:List MV))))) λp6=>
 bP (sh p6.1 0)<|
 DE .i64 .i64 .i64 .i64 p6.2 λx26 x27 x28 x29 x30 x31=>
 some (0,(iI ch bT dD cn Seen x26 x27 x28 x29 x30 x31 0)))) λp5=>
 bP (sh p5.1 0)<|
 nv .i64 .i64 .i64 .i64 .i64 .i64 p5.2 λx32 x33 x34 x35 x36 x37 x38 x39 x40 x41 x42 x43=>
 some (0,(iI x32 x33 x34 x35 x36 x37 x38 x39 x40 x41 x42 x43)))) λp3=>
 bP (sh p3.1 0)<|
 nv .i64 .i64 .i64 .i64 .i64 .i64 p3.2 λx44 x45 x46 x47 x48 x49 x50 x51 x52 x53 x54 x55=>
 some (0,(iI x44 x45 x46 x47 x48 x49 x50 x51 x52 x53 x54 x55)))) λp2=>
 bP (sh p2.1 0)<|
 nv .i64 .i64 .i64 .i64 .i64 .i64 p2.2 λx56 x57 x58 x59 x60 x61 x62 x63 x64 x65 x66 x67=>
 some (0,(iI x56 x57 x58 x59 x60 x61 x62 x63 x64 x65 x66 x67)))) λp=>
 bP (sh p.1 0)<|
 nv .i64 .i64 .i64 .i64 .i64 .i64 p.2 λx68 x69 x70 x71 x72 x73 x74 x75 x76 x77 x78 x79=>
 bd (
 aW (decide (x75=0)) (
 some [.b (decide ((0:Int)<x79))]) (
 some [.b false])) λvs7=>
 gC vs7 λap5 aiE=>
 gB ap5 λx80=>
 gN aiE<|
 aW x80 (
 both (
 some (.cg [.agg (cm x68 x69 x70 x71 x72),.agg (bK x73 x74 x75 x76 x77 x78),.list ([.agg [.i .i64 x79,.s Path]]:List MV)])) (
 both (
 some (.cg [.agg (cm x68 x69 x70 x71 x72),.agg (bK x73 x74 x75 x76 x77 x78),.list ([.agg [.i .i64 x79,.s Path]]:List MV)])) (
 some (.cg [.agg (cm x68 x69 x70 x71 x72),.agg (bK x73 x74 x75 x76 x77 x78),.list ([.agg [.i .i64 x79,.s Path]]:List MV)])))) (
 some (.cg [.agg (cm x68 x69 x70 x71 x72),.agg (bK x73 x74 x75 x76 x77 x78),.list ([]:List MV)]))
def Gs:GT:=bt 126 (dy vq) QH
theorem G6:SG Gs:=sn N8 [] [] 155 [152] [147,150,154] [(1,[3]),(33,[7])] [(34,[0,1,2,3,4,5,6,7,8,9,0,1,2,3,4,5,7,6,8,9,0,1,2,3,4,5,7,8,6,9,6,8,6,7]),(35,[0,1,2,3,4])] [(33,⟨[2,3,4,5,7,8],[],[],[(0,[(145,.sc (.k .b))])],[]⟩),(5,⟨[2,3,4,5,7],[],[],[(0,[(41,.sc (.k .b))])],[]⟩)] [(6,⟨[3,4,5],[],[],[(0,[(2,.box [.k .l,.k (.i .i64),.k .l,.k .l,.k .l]),(7,.box [.k (.i .i64),.k (.i .i64),.k (.i .i64),.k .s,.k (.i .i64),.k .l])])],[]⟩),(21,⟨[2,3,4,5],[],[],[(0,[(7,.box [.k (.i .i64),.k (.i .i64),.k (.i .i64),.k .s,.k (.i .i64),.k .l])])],[]⟩),(30,⟨[2,3,4,5,8],[],[],[(0,[(7,.box [.k (.i .i64),.k (.i .i64),.k (.i .i64),.k .s,.k (.i .i64),.k .l])])],[]⟩),(25,⟨[3,4,5,23],[],[],[(0,[(2,.box [.k .l,.k (.i .i64),.k .l,.k .l,.k .l]),(7,.box [.k (.i .i64),.k (.i .i64),.k (.i .i64),.k .s,.k (.i .i64),.k .l]),(8,.sc (.k (.i .i64)))])],[]⟩),(17,⟨[3,4,5,23],[],[],[(0,[(2,.box [.k .l,.k (.i .i64),.k .l,.k .l,.k .l]),(7,.box [.k (.i .i64),.k (.i .i64),.k (.i .i64),.k .s,.k (.i .i64),.k .l]),(8,.sc (.k (.i .i64)))])],[]⟩),(12,⟨[3,4,5,23],[],[],[(0,[(2,.box [.k .l,.k (.i .i64),.k .l,.k .l,.k .l]),(7,.box [.k (.i .i64),.k (.i .i64),.k (.i .i64),.k .s,.k (.i .i64),.k .l]),(8,.sc (.k (.i .i64)))])],[]⟩),(5,⟨[3,4,5,23],[],[],[(0,[(2,.box [.k .l,.k (.i .i64),.k .l,.k .l,.k .l]),(7,.box [.k (.i .i64),.k (.i .i64),.k (.i .i64),.k .s,.k (.i .i64),.k .l]),(8,.sc (.k (.i .i64)))])],[]⟩)] [] [] Tryz.func126 (by kernel_rfl) (bg (λ_ _=>by kernel_rfl))
def Eb (a a1 a2:MV):Option MV:=gA a λcs=>
 I8 cs λcI L=>
 gI .i64 a1 λiK=>
 gI .i64 a2 λBV=>
 bd (
 aW (decide (iK<1)) (
 some [.b true]) (
 aW (decide (BV<1)) (
 some [.b true]) (
 some [.b (decide ((1000:Int)<BV))]))) λvs=>
 gC vs λm2 jg=>
 gB m2 λx=>
 gN jg<|
 aW x (
 some (.cg [.agg [.i .i64 cI,.list L],.i .i64 1])) (
 bd (yA (.agg [.i .i64 cI,.list L]) (.i .i64 iK)) λrA=>
 gB rA λx1=>
 aW x1 (
 some (.cg [.agg [.i .i64 cI,.list L],.i .i64 7])) (
 aV L λlen=>
 aW (decide ((50:Int)<=(len:Int))) (
 some (.cg [.agg [.i .i64 cI,.list L],.i .i64 9])) (
 bd (Loop (λnd=>
 gC nd λm3 n6=>
 gL m3 λxs=>
 gC n6 λm4 ka=>
 gB m4 λx2=>
 gC ka λm5 kG=>
 gI .i64 m5 λx3=>
 gN kG<|
 aV L λcX=>
 aW (decide (x3<(cX:Int))) (
 bd (
 aW (!x2) (
 idx L x3 λy=>
 gA y λdU=>
 xY dU λId Span dX=>
 some [.b (decide (iK<Id))]) (
 some [.b false])) λjJ=>
 gC jJ λm9 lc=>
 gB m9 λx4=>
 gN lc<|
 bd (
 aW x4 (
 aV xs λdz=>
 aV ([.agg [.i .i64 iK,.i .i64 BV,.i .i64 (c9 .i64 (cI+BV))]]:List MV) λiR=>
 bP (decide ((dz+iR) *24<=2^46))<|
 some (0,[.list (xs++([.agg [.i .i64 iK,.i .i64 BV,.i .i64 (c9 .i64 (cI+BV))]]:List MV)),.b true])) (
 some (0,[.list xs,.b x2]))) λp1=>
 bP (sh p1.1 0)<|
 O6 p1.2 λzy x5=>
 idx L x3 λy1=>
 gA y1 λmQ=>
 xY mQ λVe pU tX=>
 aV zy λkj=>
 aV ([.agg [.i .i64 Ve,.i .i64 pU,.i .i64 tX]]:List MV) λuD=>
 bP (decide ((kj+uD) *24<=2^46))<|
 some (.inl [.list (zy++([.agg [.i .i64 Ve,.i .i64 pU,.i .i64 tX]]:List MV)),.b x5,.i .i64 (c9 .i64 (x3+1))])) (
 some (.inr (2,[.list xs,.b x2])))) [.list ([]:List MV),.b false,.i .i64 0]) λp=>
 bP (sh p.1 2)<|
 O6 p.2 λJd x6=>
 bd (
 aW (!x6) (
 aV Jd λCC=>
 aV ([.agg [.i .i64 iK,.i .i64 BV,.i .i64 (c9 .i64 (cI+BV))]]:List MV) λNY=>
 bP (decide ((CC+NY) *24<=2^46))<|
 some (0,[.list (Jd++([.agg [.i .i64 iK,.i .i64 BV,.i .i64 (c9 .i64 (cI+BV))]]:List MV))])) (
 some (0,[.list Jd]))) λp2=>
 bP (sh p2.1 0)<|
 gC p2.2 λTc wT=>
 gL Tc λX8=>
 gN wT<|
 some (.cg [.agg [.i .i64 cI,.list X8],.i .i64 0]))))
def QJ:GT:=bt 127 (GS Eb) Gs
theorem N9:SG QJ:=sn G6 [] [] 81 [61,69,75] [] [] [] [(13,⟨[1,3,6,8,9,10,11],[39],[],[(0,[(58,.sc (.k .b))])],[39]⟩),(1,⟨[1,2,3,6],[],[],[(0,[(21,.sc (.k .b))])],[39]⟩)] [(18,⟨[3,6,8],[],[],[(0,[(9,.sc (.own 39 127 true))])],[39]⟩),(14,⟨[1,3,6,8,11],[],[],[(0,[(9,.sc (.own 39 127 true)),(10,.sc (.k .b))])],[39]⟩)] [(11,⟨[1,3,6,8],[],[(9,.sc (.own 39 127 true)),(10,.sc (.k .b)),(11,.sc (.k (.i .i64)))],[(2,[(9,.sc (.own 39 127 true)),(10,.sc (.k .b))])],[39]⟩)] [] Tryz.func127 (by kernel_rfl) (qN (λ_ _ _=>by kernel_rfl))
def Br (b id:MV):Option MV:=gA b λcs=>
 I8 cs λcI L=>
 gI .i64 id λHv=>
 bd (yA (.agg [.i .i64 cI,.list L]) (.i .i64 Hv)) λrA=>
 gB rA λx=>
 aW (!x) (
 some (.cg [.agg [.i .i64 cI,.list L],.i .i64 14])) (
 bd (Loop (λjg=>
 Fo jg λout i=>
 aV L λlen=>
 aW (decide (i<(len:Int))) (
 idx L i λy=>
 gA y λdU=>
 xY dU λId Span dX=>
 bd (
 aW (decide (Id=Hv)) (
 some (0,[.i .i64 Id,.i .i64 Span,.i .i64 (c9 .i64 (cI+Span))])) (
 some (0,[.i .i64 Id,.i .i64 Span,.i .i64 dX]))) λp1=>
 bP (sh p1.1 0)<|
 adT .i64 .i64 .i64 p1.2 λx1 x2 x3=>
 aV out λcX=>
 aV ([.agg [.i .i64 x1,.i .i64 x2,.i .i64 x3]]:List MV) λdz=>
 bP (decide ((cX+dz) *24<=2^46))<|
 some (.inl [.list (out++([.agg [.i .i64 x1,.i .i64 x2,.i .i64 x3]]:List MV)),.i .i64 (c9 .i64 (i+1))])) (
 some (.inr (2,[.list out])))) [.list ([]:List MV),.i .i64 0]) λp=>
 bP (sh p.1 2)<|
 gC p.2 λQo wU=>
 gL Qo λjy=>
 gN wU<|
 some (.cg [.agg [.i .i64 cI,.list jy],.i .i64 0]))
def MA:GT:=bt 128 (dy Br) QJ
theorem Le:SG MA:=sn N9 [] [] 45 [39] [] [] [] [] [(9,⟨[1,2,4,6,7],[14],[],[(0,[(8,.box [.k (.i .i64),.k (.i .i64),.k (.i .i64)])])],[14]⟩)] [(5,⟨[1,2,4],[],[(6,.sc (.own 14 127 true)),(7,.sc (.k (.i .i64)))],[(2,[(6,.sc (.own 14 127 true))])],[14]⟩)] [] Tryz.func128 (by kernel_rfl) (bg (λ_ _=>by kernel_rfl))
def Bs (b id:MV):Option MV:=gA b λcs=>
 I8 cs λcI L=>
 gI .i64 id λHv=>
 bd (yA (.agg [.i .i64 cI,.list L]) (.i .i64 Hv)) λrA=>
 gB rA λx=>
 aW (!x) (
 some (.cg [.agg [.i .i64 cI,.list L],.i .i64 14])) (
 bd (Loop (λjg=>
 Fo jg λout i=>
 aV L λlen=>
 aW (decide (i<(len:Int))) (
 idx L i λy=>
 gA y λdU=>
 xY dU λId Span dX=>
 bd (
 aW (!decide (Id=Hv)) (
 idx L i λy1=>
 gA y1 λmQ=>
 xY mQ λVe pU tX=>
 aV out λcX=>
 aV ([.agg [.i .i64 Ve,.i .i64 pU,.i .i64 tX]]:List MV) λdz=>
 bP (decide ((cX+dz) *24<=2^46))<|
 some (0,[.list (out++([.agg [.i .i64 Ve,.i .i64 pU,.i .i64 tX]]:List MV))])) (
 some (0,[.list out]))) λp1=>
 bP (sh p1.1 0)<|
 gC p1.2 λQo wU=>
 gL Qo λjy=>
 gN wU<|
 some (.inl [.list jy,.i .i64 (c9 .i64 (i+1))])) (
 some (.inr (2,[.list out])))) [.list ([]:List MV),.i .i64 0]) λp=>
 bP (sh p.1 2)<|
 gC p.2 λTb Ar=>
 gL Tb λDK=>
 gN Ar<|
 some (.cg [.agg [.i .i64 cI,.list DK],.i .i64 0]))
def MB:GT:=bt 129 (dy Bs) MA
theorem Lf:SG MB:=sn Le [] [] 41 [35] [] [] [] [] [(8,⟨[1,2,4,7],[],[],[(0,[(6,.sc (.own 13 127 true))])],[13]⟩)] [(5,⟨[1,2,4],[],[(6,.sc (.own 13 127 true)),(7,.sc (.k (.i .i64)))],[(2,[(6,.sc (.own 13 127 true))])],[13]⟩)] [] Tryz.func129 (by kernel_rfl) (bg (λ_ _=>by kernel_rfl))
def Ec (sA owner:MV):Option MV:=gA sA λcs=>
 gC cs λm fg=>
 gL m λL=>
 gN fg<|
 gI .i64 owner λyg=>
 bd (Loop (λeg=>
 GV eg λlA gone i=>
 aV L λlen=>
 aW (decide (i<(len:Int))) (
 bd (
 aW (decide ((0:Int)<yg)) (
 idx L i λy=>
 gA y λdU=>
 gx dU λPath Value Version b5=>
 some [.b (decide (b5=yg))]) (
 some [.b false])) λvs=>
 gC vs λm8 rX=>
 gB m8 λx=>
 gN rX<|
 bd (
 aW x (
 idx L i λy1=>
 gA y1 λmQ=>
 gx mQ λew cC bF rZ=>
 aV gone λcX=>
 aV ([.s ew]:List MV) λdz=>
 bP (decide ((cX+dz) *16<=2^46))<|
 some (0,[.list lA,.list (gone++([.s ew]:List MV))])) (
 idx L i λy2=>
 gA y2 λmE=>
 gx mE λCf qv iS Ft=>
 aV lA λiR=>
 aV ([.agg (fc Cf qv iS Ft)]:List MV) λkj=>
 bP (decide ((iR+kj) *48<=2^46))<|
 some (0,[.list (lA++([.agg (fc Cf qv iS Ft)]:List MV)),.list gone]))) λp1=>
 bP (sh p1.1 0)<|
 O7 p1.2 λpT Jx=>
 some (.inl [.list pT,.list Jx,.i .i64 (c9 .i64 (i+1))])) (
 some (.inr (2,[.list lA,.list gone])))) [.list ([]:List MV),.list ([]:List MV),.i .i64 0]) λp=>
 bP (sh p.1 2)<|
 O7 p.2 λlA2 aaZ=>
 some (.cg [.agg [.list lA2],.list aaZ])
def QK:GT:=bt 191 (dy Ec) MB
theorem Oa:SG QK:=sn Lf [] [] 50 [37,45] [] [] [] [(5,⟨[1,2,4,6,7,8],[9,10],[],[(0,[(29,.sc (.k .b))])],[9,10]⟩)] [(6,⟨[1,2,4,8],[],[],[(0,[(6,.sc (.own 9 124 true)),(7,.sc (.own 10 9 true))])],[9,10]⟩)] [(3,⟨[1,2,4],[],[(6,.sc (.own 9 124 true)),(7,.sc (.own 10 9 true)),(8,.sc (.k (.i .i64)))],[(2,[(6,.sc (.own 9 124 true)),(7,.sc (.own 10 9 true))])],[9,10]⟩)] [] Tryz.func191 (by kernel_rfl) (bg (λ_ _=>by kernel_rfl))
def xd (sA ids:MV):Option MV:=gA sA λcs=>
 gC cs λm fg=>
 gL m λL=>
 gN fg<|
 gL ids λame=>
 bd (Loop (λeg=>
 GV eg λkZ out i=>
 aV ame λlen=>
 aW (decide (i<(len:Int))) (
 idx ame i λy=>
 gI .i64 y λx=>
 bd (Ec (.agg [.list kZ]) (.i .i64 x)) λrA=>
 gT rA λvs=>
 gC vs λm4 ka=>
 gA m4 λdU=>
 gC dU λm5 kG=>
 gL m5 λL1=>
 gN kG<|
 gC ka λm6 kb=>
 gL m6 λx1=>
 gN kb<|
 bd (Loop (λkc=>
 Fo kc λjy k=>
 aV x1 λcX=>
 aW (decide (k<(cX:Int))) (
 idx x1 k λy1=>
 gS y1 λx2=>
 aV jy λdz=>
 aV ([.agg [.i .i64 3,.s x2]]:List MV) λiR=>
 bP (decide ((dz+iR) *24<=2^46))<|
 some (.inl [.list (jy++([.agg [.i .i64 3,.s x2]]:List MV)),.i .i64 (c9 .i64 (k+1))])) (
 some (.inr (4,[.list jy])))) [.list out,.i .i64 0]) λp1=>
 bP (sh p1.1 4)<|
 gC p1.2 λm9 wU=>
 gL m9 λDK=>
 gN wU<|
 some (.inl [.list L1,.list DK,.i .i64 (c9 .i64 (i+1))])) (
 some (.inr (2,[.list kZ,.list out])))) [.list L,.list ([]:List MV),.i .i64 0]) λp=>
 bP (sh p.1 2)<|
 O7 p.2 λsA2 N3=>
 some (.cg [.agg [.list sA2],.list N3])
def MC:GT:=bt 130 (dy xd) QK
theorem Lg:SG MC:=sn Oa [] [] 44 [39] [] [] [(5,[0,1,2,3,4,5,6,7,8,9,10,11])] [] [] [(7,⟨[1,2,4,7,8,9],[],[(6,.sc (.own 11 155 true)),(10,.sc (.k (.i .i64)))],[(4,[(6,.sc (.own 11 155 true))])],[11]⟩),(3,⟨[1,4],[],[(2,.box [.k .l]),(6,.sc (.own 11 155 true)),(7,.sc (.k (.i .i64)))],[(2,[(2,.box [.k .l]),(6,.sc (.own 11 155 true))])],[11]⟩)] [] Tryz.func130 (by kernel_rfl) (bg (λ_ _=>by kernel_rfl))
def Ed (b now:MV):Option MV:=gA b λcs=>
 I8 cs λcI L=>
 gI .i64 now λN2=>
 aW (decide (N2<cI)) (
 some (.cg [.agg [.i .i64 cI,.list L],.list ([]:List MV),.i .i64 15])) (
 aW (decide ((1000000000:Int)<N2)) (
 some (.cg [.agg [.i .i64 cI,.list L],.list ([]:List MV),.i .i64 5])) (
 bd (Loop (λjg=>
 GV jg λlA gone i=>
 aV L λlen=>
 aW (decide (i<(len:Int))) (
 idx L i λy=>
 gA y λdU=>
 xY dU λId Span dX=>
 bd (
 aW (decide (dX<=N2)) (
 idx L i λy1=>
 gA y1 λmQ=>
 xY mQ λVe pU tX=>
 aV gone λcX=>
 aV ([.i .i64 Ve]:List MV) λdz=>
 bP (decide ((cX+dz) *8<=2^46))<|
 some (0,[.list lA,.list (gone++([.i .i64 Ve]:List MV))])) (
 idx L i λy2=>
 gA y2 λmE=>
 xY mE λId2 agt aa0=>
 aV lA λiR=>
 aV ([.agg [.i .i64 Id2,.i .i64 agt,.i .i64 aa0]]:List MV) λkj=>
 bP (decide ((iR+kj) *24<=2^46))<|
 some (0,[.list (lA++([.agg [.i .i64 Id2,.i .i64 agt,.i .i64 aa0]]:List MV)),.list gone]))) λp1=>
 bP (sh p1.1 0)<|
 O7 p1.2 λpT Jx=>
 some (.inl [.list pT,.list Jx,.i .i64 (c9 .i64 (i+1))])) (
 some (.inr (2,[.list lA,.list gone])))) [.list ([]:List MV),.list ([]:List MV),.i .i64 0]) λp=>
 bP (sh p.1 2)<|
 O7 p.2 λlA2 aaZ=>
 some (.cg [.agg [.i .i64 N2,.list lA2],.list aaZ,.i .i64 0])))
def QL:GT:=bt 131 (dy Ed) MC
theorem Ob:SG QL:=sn Lg [] [] 56 [42,50] [] [] [] [] [(10,⟨[1,2,4,9],[],[],[(0,[(7,.sc (.own 18 127 true)),(8,.sc (.own 19 3 true))])],[18,19]⟩)] [(7,⟨[1,2,4],[],[(7,.sc (.own 18 127 true)),(8,.sc (.own 19 3 true)),(9,.sc (.k (.i .i64)))],[(2,[(7,.sc (.own 18 127 true)),(8,.sc (.own 19 3 true))])],[18,19]⟩)] [] Tryz.func131 (by kernel_rfl) (bg (λ_ _=>by kernel_rfl))
def HA (t w:MV):Option MV:=gA t λcs=>
 gC cs λm fg=>
 gL m λL=>
 gN fg<|
 gA w λdU=>
 Ai dU λPath Client Kids=>
 bd (oz (.s Path)) λrA=>
 gB rA λx=>
 aW (!x) (
 some (.cg [.agg [.list L],.i .i64 13])) (
 aW (decide (Client<0)) (
 some (.cg [.agg [.list L],.i .i64 1])) (
 bd (Hu (.list L) (.agg [.s Path,.i .i64 Client,.b Kids])) λaT=>
 gB aT λx1=>
 aW x1 (
 some (.cg [.agg [.list L],.i .i64 0])) (
 aV L λlen=>
 aW (decide ((200:Int)<=(len:Int))) (
 some (.cg [.agg [.list L],.i .i64 9])) (
 bP (nS 3 L)<|
 aV ([]:List MV) λcX=>
 aV L λdz=>
 bP (decide ((cX+dz) *32<=2^46))<|
 aV (([]:List MV)++L) λiR=>
 aV ([.agg [.s Path,.i .i64 Client,.b Kids]]:List MV) λkj=>
 bP (decide ((iR+kj) *32<=2^46))<|
 some (.cg [.agg [.list ((([]:List MV)++L)++([.agg [.s Path,.i .i64 Client,.b Kids]]:List MV))],.i .i64 0])))))
def Vl:GT:=bt 132 (dy HA) QL
theorem QM:SG Vl:=sn Ob [] [] 36 [32] [] [] [] [] [] [] [] Tryz.func132 (by kernel_rfl) (bg (λ_ _=>by kernel_rfl))
def Ee (a a1:MV):Option MV:=gA a λcs=>
 eT cs λch bT dD cn Seen=>
 gA a1 λdU=>
 fE dU λClient Seq Kind Path Value Version Session Span=>
 bd (
 aW (decide (Kind=1)) (
 some (0,[.b (decide (Kind=1))])) (
 bd (
 aW (decide (Kind=2)) (
 some (0,[.b (decide (Kind=2))])) (
 bd (
 aW (decide (Kind=3)) (
 some (0,[.b (decide (Kind=3))])) (
 bd (
 aW (decide (Kind=4)) (
 some (0,[.b (decide (Kind=4))])) (
 some (0,[.b (decide (Kind=5))]))) λp3=>
 bP (sh p3.1 0)<|
 gC p3.2 λQp wW=>
 gB Qp λx=>
 gN wW<|
 some (0,[.b x]))) λp2=>
 bP (sh p2.1 0)<|
 gC p2.2 λm14 DY=>
 gB m14 λx1=>
 gN DY<|
 some (0,[.b x1]))) λp1=>
 bP (sh p1.1 0)<|
 gC p1.2 λm15 DN=>
 gB m15 λx2=>
 gN DN<|
 some (0,[.b x2]))) λp=>
 bP (sh p.1 0)<|
 gC p.2 λm16 QI=>
 gB m16 λx3=>
 gN QI<|
 aW x3 (
 bd (vq (.agg (cm ch bT dD cn Seen)) (.agg (cU Client Seq Kind Path Value Version Session Span))) λrA=>
 gT rA λvs=>
 gC vs λTc DR=>
 gA Tc λmQ=>
 eT mQ λjd gG mq jE sr=>
 gC DR λNZ rv=>
 gA NZ λmE=>
 cO mE λbZ j9 E cC bF Names=>
 gC rv λm30 aa1=>
 gL m30 λx4=>
 gN aa1<|
 some (.cg [.agg (cm jd gG mq jE sr),.agg (bK bZ j9 E cC bF Names),.list x4])) (
 bd (
 aW (decide (Kind=6)) (
 bd (Eb (.agg [.i .i64 bT,.list dD]) (.i .i64 Session) (.i .i64 Span)) λaT=>
 gT aT λjJ=>
 gC jJ λm31 JO=>
 gA m31 λN0=>
 I8 N0 λcI L=>
 gC JO λm34 JP=>
 gI .i64 m34 λx5=>
 gN JP<|
 some (0,(fh ch cI L cn Seen 0 0 x5 ([]:List UInt8) 0 ([]:List MV) ([]:List MV)))) (
 bd (
 aW (decide (Kind=7)) (
 bd (Br (.agg [.i .i64 bT,.list dD]) (.i .i64 Session)) λcf=>
 gT cf λpP=>
 gC pP λm35 D9=>
 gA m35 λWZ=>
 I8 WZ λaiy L1=>
 gC D9 λm38 Al=>
 gI .i64 m38 λx6=>
 gN Al<|
 some (0,(fh ch aiy L1 cn Seen 0 0 x6 ([]:List UInt8) 0 ([]:List MV) ([]:List MV)))) (
 bd (
 aW (decide (Kind=8)) (
 bd (Bs (.agg [.i .i64 bT,.list dD]) (.i .i64 Session)) λfH=>
 gT fH λWY=>
 gC WY λm39 Am=>
 gA m39 λcs6=>
 I8 cs6 λamf L2=>
 gC Am λm42 Qy=>
 gI .i64 m42 λx7=>
 gN Qy<|
 bd (
 aW (decide (x7=0)) (
 bd (xd (.agg [.list ch]) (.list ([.i .i64 Session]:List MV))) λn0=>
 gT n0 λvs4=>
 gC vs4 λm43 Jh=>
 gA m43 λcs7=>
 gC cs7 λm44 aaM=>
 gL m44 λL3=>
 gN aaM<|
 gC Jh λm45 Qw=>
 gL m45 λx8=>
 gN Qw<|
 some (0,[.list L3,.i .i64 amf,.list L2,.list cn,.list Seen,.list x8])) (
 some (0,[.list ch,.i .i64 amf,.list L2,.list cn,.list Seen,.list ([]:List MV)]))) λp7=>
 bP (sh p7.1 0)<|
 gC p7.2 λm46 aaN=>
 gL m46 λx9=>
 gC aaN λm47 aaO=>
 gI .i64 m47 λqq=>
 gC aaO λm48 Qx=>
 gL m48 λrW=>
 gC Qx λm49 aaY=>
 gL m49 λzw=>
 O7 aaY λzx CY=>
 some (0,(fh x9 qq rW zw zx 0 0 x7 ([]:List UInt8) 0 ([]:List MV) CY))) (
 bd (
 aW (decide (Kind=9)) (
 bd (Ed (.agg [.i .i64 bT,.list dD]) (.i .i64 Span)) λqn=>
 gT qn λvs5=>
 gC vs5 λm52 amg=>
 gA m52 λcs8=>
 I8 cs8 λaiF L4=>
 Fo amg λBh DF=>
 bd (
 aW (decide (DF=0)) (
 bd (xd (.agg [.list ch]) (.list Bh)) λmT=>
 gT mT λvs6=>
 gC vs6 λm57 aaP=>
 gA m57 λcs9=>
 gC cs9 λm58 aaQ=>
 gL m58 λL5=>
 gN aaQ<|
 gC aaP λm59 aaR=>
 gL m59 λDG=>
 gN aaR<|
 some (0,(fh L5 aiF L4 cn Seen 0 0 DF ([]:List UInt8) aiF ([]:List MV) DG))) (
 some (0,(fh ch aiF L4 cn Seen 0 0 DF ([]:List UInt8) 0 ([]:List MV) ([]:List MV))))) λp9=>
 bP (sh p9.1 0)<|
 lk .i64 .i64 .i64 .i64 .i64 p9.2 λDH Fm Mq O8 Vd x23 x24 x25 x26 x27 x28 x29=>
 some (0,(fh DH Fm Mq O8 Vd x23 x24 x25 x26 x27 x28 x29))) (
 bd (
 aW (decide (Kind=10)) (
 some (0,[.b (decide (Kind=10))])) (
 some (0,[.b (decide (Kind=11))]))) λp10=>
 bP (sh p10.1 0)<|
 gC p10.2 λm72 amh=>
 gB m72 λx30=>
 gN amh<|
 bd (
 aW x30 (
 bd (HA (.agg [.list cn]) (.agg [.s Path,.i .i64 Client,.b (decide (Kind=11))])) λEO=>
 gT EO λvs7=>
 gC vs7 λm73 ami=>
 gA m73 λap9=>
 gC ap9 λm74 amj=>
 gL m74 λL6=>
 gN amj<|
 gC ami λm75 amk=>
 gI .i64 m75 λx31=>
 gN amk<|
 some (0,[.list ch,.i .i64 bT,.list dD,.list L6,.list Seen,.i .i64 0,.i .i64 0,.i .i64 x31,.s ([]:List UInt8),.i .i64 0,.list ([]:List MV)])) (
 some (0,[.list ch,.i .i64 bT,.list dD,.list cn,.list Seen,.i .i64 0,.i .i64 0,.i .i64 0,.s ([]:List UInt8),.i .i64 0,.list ([]:List MV)]))) λp11=>
 bP (sh p11.1 0)<|
 gC p11.2 λm76 aml=>
 gL m76 λx32=>
 gC aml λm77 amm=>
 gI .i64 m77 λx33=>
 gC amm λm78 amn=>
 gL m78 λx34=>
 gC amn λm79 amo=>
 gL m79 λx35=>
 gC amo λm80 amp=>
 gL m80 λx36=>
 cO amp λx37 x38 x39 x40 x41 x42=>
 some (0,(fh x32 x33 x34 x35 x36 x37 x38 x39 x40 x41 x42 ([]:List MV))))) λp8=>
 bP (sh p8.1 0)<|
 lk .i64 .i64 .i64 .i64 .i64 p8.2 λx43 x44 x45 x46 x47 x48 x49 x50 x51 x52 x53 x54=>
 some (0,(fh x43 x44 x45 x46 x47 x48 x49 x50 x51 x52 x53 x54)))) λp6=>
 bP (sh p6.1 0)<|
 lk .i64 .i64 .i64 .i64 .i64 p6.2 λx55 x56 x57 x58 x59 x60 x61 x62 x63 x64 x65 x66=>
 some (0,(fh x55 x56 x57 x58 x59 x60 x61 x62 x63 x64 x65 x66)))) λp5=>
 bP (sh p5.1 0)<|
 lk .i64 .i64 .i64 .i64 .i64 p5.2 λx67 x68 x69 x70 x71 x72 x73 x74 x75 x76 x77 x78=>
 some (0,(fh x67 x68 x69 x70 x71 x72 x73 x74 x75 x76 x77 x78)))) λp4=>
 bP (sh p4.1 0)<|
 lk .i64 .i64 .i64 .i64 .i64 p4.2 λx79 x80 x81 x82 x83 x84 x85 x86 x87 x88 x89 x90=>
 some (.cg [.agg (cm x79 x80 x81 x82 x83),.agg (bK x84 x85 x86 x87 x88 x89),.list x90]))
def QN:GT:=bt 66 (dy Ee) Vl
theorem Oc:SG QN:=sn QM [] [] 153 [25,92] [151] [(40,[7])] [(40,[0,1,2,3,4,5])] [] [(23,⟨[3,4,5,7],[],[],[(0,[(2,.box [.k .l,.k (.i .i64),.k .l,.k .l,.k .l]),(8,.sc (.k .l))])],[]⟩),(31,⟨[4,5,17,18],[],[],[(0,[(2,.box [.k .l,.k (.i .i64),.k .l,.k .l,.k .l]),(7,.box [.k (.i .i64),.k (.i .i64),.k (.i .i64),.k .s,.k (.i .i64),.k .l]),(8,.sc (.k .l))])],[]⟩),(37,⟨[3,4,5,8],[],[],[(0,[(2,.box [.k .l,.k (.i .i64),.k .l,.k .l,.k .l]),(7,.box [.k (.i .i64),.k (.i .i64),.k (.i .i64),.k .s,.k (.i .i64),.k .l])])],[]⟩),(36,⟨[2,3,4,5,7,8,27],[],[],[(0,[(129,.sc (.k .b))])],[]⟩),(27,⟨[3,4,5,27],[],[],[(0,[(2,.box [.k .l,.k (.i .i64),.k .l,.k .l,.k .l]),(7,.box [.k (.i .i64),.k (.i .i64),.k (.i .i64),.k .s,.k (.i .i64),.k .l]),(8,.sc (.k .l))])],[]⟩),(19,⟨[3,4,5,27],[],[],[(0,[(2,.box [.k .l,.k (.i .i64),.k .l,.k .l,.k .l]),(7,.box [.k (.i .i64),.k (.i .i64),.k (.i .i64),.k .s,.k (.i .i64),.k .l]),(8,.sc (.k .l))])],[]⟩),(15,⟨[3,4,5,27],[],[],[(0,[(2,.box [.k .l,.k (.i .i64),.k .l,.k .l,.k .l]),(7,.box [.k (.i .i64),.k (.i .i64),.k (.i .i64),.k .s,.k (.i .i64),.k .l]),(8,.sc (.k .l))])],[]⟩),(11,⟨[3,4,5,27],[],[],[(0,[(2,.box [.k .l,.k (.i .i64),.k .l,.k .l,.k .l]),(7,.box [.k (.i .i64),.k (.i .i64),.k (.i .i64),.k .s,.k (.i .i64),.k .l]),(8,.sc (.k .l))])],[]⟩),(8,⟨[2,3,4,5,7,8,27],[],[],[(0,[(28,.sc (.k .b))])],[]⟩),(7,⟨[2,3,4,5,7,8,27],[],[],[(0,[(28,.sc (.k .b))])],[]⟩),(6,⟨[2,3,4,5,7,8,27],[],[],[(0,[(28,.sc (.k .b))])],[]⟩),(5,⟨[2,3,4,5,7,8,27],[],[],[(0,[(28,.sc (.k .b))])],[]⟩)] [] [] Tryz.func66 (by kernel_rfl) (bg (λ_ _=>by kernel_rfl))
def vr (c w:MV):Option MV:=gA c λcs=>
 gC cs λm fg=>
 gI .i64 m λKind=>
 gC fg λm1 eg=>
 gS m1 λPath=>
 gN eg<|
 gA w λdU=>
 Ai dU λew Client Kids=>
 bd (
 aW (decide (Kind<1)) (
 some [.b true]) (
 aW (decide ((3:Int)<Kind)) (
 some [.b true]) (
 bd (oz (.s Path)) λrA=>
 gB rA λx=>
 some [.b (!x)]))) λvs=>
 gC vs λm5 ka=>
 gB m5 λx1=>
 gN ka<|
 aW x1 (
 some (.b false)) (
 aW (!Kids) (
 some (.b (decide (Path=ew)))) (
 bd (qu (.s Path)) λaT=>
 gT aT λjJ=>
 gC jJ λm6 kG=>
 gS m6 λx2=>
 gC kG λm7 kb=>
 gI .i64 m7 λx3=>
 gN kb<|
 bd (
 aW (!decide (Kind=2)) (
 aW (decide (x3=0)) (
 some [.b (decide (x2=ew))]) (
 some [.b false])) (
 some [.b false])) λpP=>
 gC pP λm8 kc=>
 gB m8 λx4=>
 gN kc<|
 some (.b x4)))
def Gt:GT:=bt 133 (dy vr) QN
theorem G7:SG Gt:=kO Oc [] 48 [(6,⟨[2,3,5,6],[],[],[(0,[(4,.sc (.k .b))])],[]⟩),(1,⟨[2,3],[],[],[(0,[(20,.sc (.k .b))])],[]⟩)] [] [] Tryz.func133 (by kernel_rfl) (bg (λ_ _=>by kernel_rfl))
def Ef (t lA:MV):Option MV:=gA t λcs=>
 gC cs λm fg=>
 gL m λL=>
 gN fg<|
 gL lA λpT=>
 bP (nS 3 L)<|
 aV ([]:List MV) λlen=>
 aV L λcX=>
 bP (decide ((len+cX) *32<=2^46))<|
 bd (Loop (λeg=>
 GV eg λleft out i=>
 aV pT λdz=>
 aW (decide (i<(dz:Int))) (
 bd (Loop (λka=>
 GV ka λjy stay k=>
 aV left λiR=>
 aW (decide (k<(iR:Int))) (
 idx pT i λy=>
 gA y λdU=>
 gC dU λm7 rX=>
 gI .i64 m7 λKind=>
 gC rX λm8 lc=>
 gS m8 λPath=>
 gN lc<|
 idx left k λy1=>
 gA y1 λmQ=>
 Ai mQ λew Client Kids=>
 bd (vr (.agg [.i .i64 Kind,.s Path]) (.agg [.s ew,.i .i64 Client,.b Kids])) λrA=>
 gB rA λx=>
 bd (
 aW x (
 idx left k λy2=>
 gA y2 λmE=>
 Ai mE λCf bZ Gk=>
 idx pT i λy3=>
 gA y3 λN0=>
 gC N0 λm15 DR=>
 gI .i64 m15 λGj=>
 gC DR λm16 wT=>
 gS m16 λVf=>
 gN wT<|
 aV jy λkj=>
 aV ([.agg [.s Cf,.i .i64 bZ,.b Gk,.i .i64 Gj,.s Vf]]:List MV) λuD=>
 bP (decide ((kj+uD) *56<=2^46))<|
 some (0,[.list (jy++([.agg [.s Cf,.i .i64 bZ,.b Gk,.i .i64 Gj,.s Vf]]:List MV)),.list stay])) (
 idx left k λy4=>
 gA y4 λWZ=>
 Ai WZ λagu yv agv=>
 aV stay λCC=>
 aV ([.agg [.s agu,.i .i64 yv,.b agv]]:List MV) λNY=>
 bP (decide ((CC+NY) *32<=2^46))<|
 some (0,[.list jy,.list (stay++([.agg [.s agu,.i .i64 yv,.b agv]]:List MV))]))) λp2=>
 bP (sh p2.1 0)<|
 O7 p2.2 λDK amq=>
 some (.inl [.list DK,.list amq,.i .i64 (c9 .i64 (k+1))])) (
 some (.inr (4,[.list jy,.list stay])))) [.list out,.list ([]:List MV),.i .i64 0]) λp1=>
 bP (sh p1.1 4)<|
 O7 p1.2 λN3 amr=>
 some (.inl [.list amr,.list N3,.i .i64 (c9 .i64 (i+1))])) (
 some (.inr (2,[.list left,.list out])))) [.list (([]:List MV)++L),.list ([]:List MV),.i .i64 0]) λp=>
 bP (sh p.1 2)<|
 O7 p.2 λaaT aiG=>
 some (.cg [.agg [.list aaT],.list aiG])
def QO:GT:=bt 67 (dy Ef) Gt
theorem Od:SG QO:=sn G7 [] [] 61 [48,55] [] [] [(10,[0,1,2,3,4,5,6,7,8]),(11,[0,1,2,3,4,5,6,7,8,9,10,11,12])] [] [(11,⟨[1,4,6,8,10],[11],[],[(0,[(7,.sc (.own 15 157 true)),(9,.sc (.own 22 128 true))])],[11,15,22]⟩)] [(8,⟨[1,4,6,8],[11],[(7,.sc (.own 15 157 true)),(9,.sc (.own 22 128 true)),(10,.sc (.k (.i .i64)))],[(4,[(7,.sc (.own 15 157 true)),(9,.sc (.own 22 128 true))])],[11,15,22]⟩),(4,⟨[1,4],[],[(6,.sc (.own 11 128 true)),(7,.sc (.own 15 157 true)),(8,.sc (.k (.i .i64)))],[(2,[(6,.sc (.own 11 128 true)),(7,.sc (.own 15 157 true))])],[11,15,22]⟩)] [] Tryz.func67 (by kernel_rfl) (bg (λ_ _=>by kernel_rfl))
def Eg (lA x:MV):Option MV:=gL lA λpT=>
 gA x λcs=>
 cO cs λClient Seq E Value Version Names=>
 bd (Loop (λkG=>
 gC kG λm6 kb=>
 gL m6 λout=>
 gC kb λm7 kc=>
 gB m7 λinA=>
 gC kc λm8 rX=>
 gI .i64 m8 λi=>
 gN rX<|
 aV pT λlen=>
 aW (decide (i<(len:Int))) (
 bd (
 aW (!inA) (
 idx pT i λy=>
 gA y λdU=>
 cO dU λbZ j9 E1 cC bF ke=>
 some [.b (decide (Client<=bZ))]) (
 some [.b false])) λvs=>
 gC vs λm15 QI=>
 gB m15 λx1=>
 gN QI<|
 bd (
 aW x1 (
 aV out λcX=>
 aV ([.agg (bK Client Seq E Value Version Names)]:List MV) λdz=>
 bP (decide ((cX+dz) *72<=2^46))<|
 some (0,[.list (out++([.agg (bK Client Seq E Value Version Names)]:List MV)),.b true])) (
 some (0,[.list out,.b inA]))) λp1=>
 bP (sh p1.1 0)<|
 O6 p1.2 λjy aqb=>
 idx pT i λy1=>
 gA y1 λmQ=>
 cO mQ λyv aet E2 qv iS aiz=>
 bd (
 aW (!decide (yv=Client)) (
 idx pT i λy2=>
 gA y2 λmE=>
 cO mE λVm ams E3 N1 Jo aa2=>
 aV jy λiR=>
 aV ([.agg (bK Vm ams E3 N1 Jo aa2)]:List MV) λkj=>
 bP (decide ((iR+kj) *72<=2^46))<|
 some (0,[.list (jy++([.agg (bK Vm ams E3 N1 Jo aa2)]:List MV))])) (
 some (0,[.list jy]))) λp2=>
 bP (sh p2.1 0)<|
 gC p2.2 λm30 JO=>
 gL m30 λDK=>
 gN JO<|
 some (.inl [.list DK,.b aqb,.i .i64 (c9 .i64 (i+1))])) (
 some (.inr (2,[.list out,.b inA])))) [.list ([]:List MV),.b false,.i .i64 0]) λp=>
 bP (sh p.1 2)<|
 O6 p.2 λN3 aqc=>
 bd (
 aW (!aqc) (
 aV N3 λuD=>
 aV ([.agg (bK Client Seq E Value Version Names)]:List MV) λCC=>
 bP (decide ((uD+CC) *72<=2^46))<|
 some (0,[.list (N3++([.agg (bK Client Seq E Value Version Names)]:List MV))])) (
 some (0,[.list N3]))) λp3=>
 bP (sh p3.1 0)<|
 gC p3.2 λm33 JP=>
 gL m33 λaiG=>
 gN JP<|
 some (.list aiG)
def QP:GT:=bt 68 (dy Eg) QO
theorem Oe:SG QP:=sn Od [] [] 53 [29,44,50] [] [] [(6,[0,1,2,3,4,5,6,7,8,9,10,11]),(9,[0,1,2,3,4,5,6,7])] [(6,⟨[0,3,5,6,7],[8],[],[(0,[(26,.sc (.k .b))])],[8]⟩)] [(12,⟨[3],[],[],[(0,[(5,.sc (.own 8 61 true))])],[8]⟩),(10,⟨[0,3,6,7],[],[],[(0,[(5,.sc (.own 8 61 true))])],[8]⟩),(7,⟨[0,3,7],[],[],[(0,[(5,.sc (.own 8 61 true)),(6,.sc (.k .b))])],[8]⟩)] [(4,⟨[0,3],[],[(5,.sc (.own 8 61 true)),(6,.sc (.k .b)),(7,.sc (.k (.i .i64)))],[(2,[(5,.sc (.own 8 61 true)),(6,.sc (.k .b))])],[8]⟩)] [] Tryz.func68 (by kernel_rfl) (bg (λ_ _=>by kernel_rfl))
def Bt (a a1:MV):Option MV:=gA a λcs=>
 eT cs λch bT dD cn Seen=>
 gA a1 λdU=>
 fE dU λClient Seq Kind Path Value Version Session Span=>
 bd (Hy (.agg (cU Client Seq Kind Path Value Version Session Span))) λrA=>
 gB rA λx=>
 aW (!x) (
 both (
 some (.cg [.agg (cm ch bT dD cn Seen),.agg (bK Client Seq 1 ([]:List UInt8) 0 ([]:List MV)),.list ([]:List MV)])) (
 some (.cg [.agg (cm ch bT dD cn Seen),.agg (bK Client Seq 1 ([]:List UInt8) 0 ([]:List MV)),.list ([]:List MV)]))) (
 bd (D8 (.agg (cm ch bT dD cn Seen)) (.i .i64 Client)) λaT=>
 gT aT λvs=>
 gC vs λQp wW=>
 gA Qp λmQ=>
 cO mQ λbZ j9 E cC bF Names=>
 gC wW λDO jz=>
 gB DO λx1=>
 gN jz<|
 bd (
 aW x1 (
 some [.b (decide (j9=Seq))]) (
 some [.b false])) λjJ=>
 gC jJ λK3 ru=>
 gB K3 λx2=>
 gN ru<|
 aW x2 (
 some (.cg [.agg (cm ch bT dD cn Seen),.agg (bK bZ j9 E cC bF Names),.list ([]:List MV)])) (
 bd (
 aW x1 (
 some [.b (decide (Seq<j9))]) (
 some [.b false])) λpP=>
 gC pP λTe pq=>
 gB Te λx3=>
 gN pq<|
 aW x3 (
 both (
 some (.cg [.agg (cm ch bT dD cn Seen),.agg (bK Client Seq 15 ([]:List UInt8) 0 ([]:List MV)),.list ([]:List MV)])) (
 some (.cg [.agg (cm ch bT dD cn Seen),.agg (bK Client Seq 15 ([]:List UInt8) 0 ([]:List MV)),.list ([]:List MV)]))) (
 bd (
 aW (!x1) (
 aV Seen λlen=>
 some [.b (decide ((50:Int)<=(len:Int)))]) (
 some [.b false])) λWY=>
 gC WY λNZ rv=>
 gB NZ λx4=>
 gN rv<|
 aW x4 (
 some (.cg [.agg (cm ch bT dD cn Seen),.agg (bK Client Seq 9 ([]:List UInt8) 0 ([]:List MV)),.list ([]:List MV)])) (
 bd (Ee (.agg (cm ch bT dD cn Seen)) (.agg (cU Client Seq Kind Path Value Version Session Span))) λcf=>
 gT cf λvs4=>
 gC vs4 λm24 DP=>
 gA m24 λmE=>
 eT mE λjd gG mq jE sr=>
 gC DP λm30 aa1=>
 gA m30 λN0=>
 cO N0 λyv aet E1 qv iS ke=>
 gC aa1 λm37 tU=>
 gL m37 λx5=>
 gN tU<|
 bd (Ef (.agg [.list jE]) (.list x5)) λfH=>
 gT fH λvs5=>
 gC vs5 λm38 Al=>
 gA m38 λWZ=>
 gC WZ λm39 Am=>
 gL m39 λL=>
 gN Am<|
 gC Al λm40 DU=>
 gL m40 λx6=>
 gN DU<|
 bd (Eg (.list Seen) (.agg (bK Client Seq E1 qv iS ke))) λn0=>
 gL n0 λx7=>
 some (.cg [.agg (cm jd gG mq L x7),.agg (bK Client Seq E1 qv iS ke),.list x6])))))
def MD:GT:=bt 19 (dy Bt) QP
theorem Lh:SG MD:=sn Oe [] [] 95 [] [42,64,93] [(6,[8]),(13,[7]),(14,[7]),(17,[11])] [(4,[0,2,1,3,4,0,1,2,3,4,2,1]),(7,[0,1,2,3,4]),(10,[0,2,1,3,4,0,1,2,3,4,2,1]),(13,[0,1,2,3,4]),(20,[0,1,2,3,4,5])] [(11,⟨[2,3,4,5,7,9],[],[],[(0,[(61,.sc (.k .b))])],[]⟩),(8,⟨[2,3,4,5,7,8,9],[],[],[(0,[(50,.sc (.k .b))])],[]⟩),(6,⟨[2,3,4,5,7,8,9],[],[],[(0,[(40,.sc (.k .b))])],[]⟩)] [] [] [] Tryz.func19 (by kernel_rfl) (bg (λ_ _=>by kernel_rfl))
def HB (o:MV):Option MV:=gA o λcs=>
 fE cs λClient Seq Kind Path Value Version Session Span=>
 some (.agg (cU Client Seq Kind Path Value Version Session Span))
def Vn:GT:=bt 20 (nX HB) MD
theorem QQ:SG Vn:=kO Lh [] 20 [] [] [] Tryz.func20 (by kernel_rfl) (dP (λ_=>by kernel_rfl))
def Eh (n:MV):Option MV:=gI .u64 n λn1=>
 bd (Loop (λfg=>
 oII .u64 .i64 fg λn2 k=>
 aW (decide ((0:Int)<n2)) (
 bP (!decide ((256:Int)=0))<|
 some (.inl [.i .u64 (c9 .u64 (Int.tdiv n2 256)),.i .i64 (c9 .i64 (k+1))])) (
 some (.inr (2,[.i .i64 k])))) [.i .u64 n1,.i .i64 1]) λp=>
 bP (sh p.1 2)<|
 gC p.2 λm2 nd=>
 gI .i64 m2 λk1=>
 gN nd<|
 some (.i .i64 k1)
def QR:GT:=bt 154 (nX Eh) Vn
theorem Of:SG QR:=kO QQ [] 11 [] [] [(2,⟨[],[],[(0,.sc (.k (.i .u64))),(3,.sc (.k (.i .i64)))],[(2,[(3,.sc (.k (.i .i64)))])],[]⟩)] Tryz.func154 (by kernel_rfl) (dP (λ_=>by kernel_rfl))
def yD (b n:MV):Option MV:=gL b λb1=>
 gI .u64 n λn1=>
 bP (nS 1 b1)<|
 aV ([]:List MV) λlen=>
 aV b1 λcX=>
 bP (decide ((len+cX) *1<=2^46))<|
 bd (Eh (.i .u64 n1)) λrA=>
 gI .i64 rA λx=>
 aV (([]:List MV)++b1) λdz=>
 aV ([.i .u8 (c9 .u8 (c9 .i64 (x-1)))]:List MV) λiR=>
 bP (decide ((dz+iR) *1<=2^46))<|
 bd (Loop (λfg=>
 Fo fg λout i=>
 aW (decide ((0:Int)<=i)) (
 bd (Loop (λnd=>
 oII .u64 .i64 nd λx1 j=>
 aW (decide (j<i)) (
 bP (!decide ((256:Int)=0))<|
 some (.inl [.i .u64 (c9 .u64 (Int.tdiv x1 256)),.i .i64 (c9 .i64 (j+1))])) (
 some (.inr (4,[.i .u64 x1])))) [.i .u64 n1,.i .i64 0]) λp1=>
 bP (sh p1.1 4)<|
 gC p1.2 λm4 kG=>
 gI .u64 m4 λx2=>
 gN kG<|
 bP (!decide ((256:Int)=0))<|
 aV out λkj=>
 aV ([.i .u8 (c9 .u8 (Int.tmod x2 256))]:List MV) λuD=>
 bP (decide ((kj+uD) *1<=2^46))<|
 some (.inl [.list (out++([.i .u8 (c9 .u8 (Int.tmod x2 256))]:List MV)),.i .i64 (c9 .i64 (i-1))])) (
 some (.inr (2,[.list out])))) [.list ((([]:List MV)++b1)++([.i .u8 (c9 .u8 (c9 .i64 (x-1)))]:List MV)),.i .i64 (c9 .i64 ((c9 .i64 (x-1))-1))]) λp=>
 bP (sh p.1 2)<|
 gC p.2 λm5 kb=>
 gL m5 λjy=>
 gN kb<|
 some (.fresh jy)
def Vo:GT:=bt 92 (dy yD) QR
theorem QS:SG Vo:=fnF Of 5 [] [] 42 [19,39] [] [] [] [] [] [(9,⟨[1,5,7],[10],[(8,.sc (.k (.i .u64))),(9,.sc (.k (.i .i64)))],[(4,[(8,.sc (.k (.i .u64)))])],[]⟩),(5,⟨[1],[],[(5,.sc (.own 10 5 false)),(7,.sc (.k (.i .i64)))],[(2,[(5,.sc (.own 10 5 false))])],[]⟩)] [] Tryz.func92 (by kernel_rfl) (by kernel_rfl) (bg (λ_ _=>by kernel_rfl))
def jF (b n:MV):Option MV:=gL b λb1=>
 gI .i64 n λn1=>
 aW (decide (n1<0)) (
 bd (yD (.list b1) (.i .u64 (c9 .u64 ((c9 .u64 (2 *(c9 .u64 (c9 .i64 (0-(c9 .i64 (n1+1)))))))+1)))) λrA=>
 gF rA λxs=>
 some (.fresh xs)) (
 bd (yD (.list b1) (.i .u64 (c9 .u64 (2 *(c9 .u64 n1))))) λaT=>
 gF aT λzy=>
 some (.fresh zy))
def Vp:GT:=bt 134 (dy jF) Vo
theorem QT:SG Vp:=fnF QS 5 [] [] 20 [] [] [] [] [] [] [] [] Tryz.func134 (by kernel_rfl) (by kernel_rfl) (bg (λ_ _=>by kernel_rfl))
def rH (b sA:MV):Option MV:=gL b λb1=>
 gS sA λkZ=>
 bd (yD (.list b1) (.i .u64 (c9 .u64 (kZ.length:Int)))) λrA=>
 gF rA λxs=>
 aV xs λlen=>
 aV (Pe kZ) λcX=>
 bP (decide ((len+cX) *1<=2^46))<|
 some (.fresh (xs++(Pe kZ)))
def QU:GT:=bt 135 (dy rH) Vp
theorem Og:SG QU:=fnF QT 5 [] [] 14 [] [] [] [] [] [] [] [] Tryz.func135 (by kernel_rfl) (by kernel_rfl) (bg (λ_ _=>by kernel_rfl))
def Ei (b lA:MV):Option MV:=gL b λb1=>
 gL lA λpT=>
 aV pT λlen=>
 bd (yD (.list b1) (.i .u64 (c9 .u64 (len:Int)))) λrA=>
 gF rA λxs=>
 bd (Loop (λfg=>
 Fo fg λout i=>
 aV pT λcX=>
 aW (decide (i<(cX:Int))) (
 idx pT i λy=>
 gS y λx=>
 bd (rH (.list out) (.s x)) λaT=>
 gF aT λzy=>
 some (.inl [.list zy,.i .i64 (c9 .i64 (i+1))])) (
 some (.inr (2,[.list out])))) [.list xs,.i .i64 0]) λp=>
 bP (sh p.1 2)<|
 gC p.2 λm2 nd=>
 gL m2 λjy=>
 gN nd<|
 some (.fresh jy)
def QV:GT:=bt 192 (dy Ei) QU
theorem Oh:SG QV:=fnF Og 5 [] [] 25 [] [] [] [] [] [] [(3,⟨[1],[],[(5,.sc (.own 11 5 false)),(6,.sc (.k (.i .i64)))],[(2,[(5,.sc (.own 11 5 false))])],[]⟩)] [] Tryz.func192 (by kernel_rfl) (by kernel_rfl) (bg (λ_ _=>by kernel_rfl))
def sU (b rA:MV):Option MV:=gL b λb1=>
 gA rA λcs=>
 cO cs λClient Seq E Value Version Names=>
 bd (Loop (λkG=>
 Fo kG λb2 i=>
 aV ([.i .i64 Client,.i .i64 Seq,.i .i64 E,.i .i64 Version]:List MV) λlen=>
 aW (decide (i<(len:Int))) (
 idx ([.i .i64 Client,.i .i64 Seq,.i .i64 E,.i .i64 Version]:List MV) i λy=>
 gI .i64 y λx=>
 bd (jF (.list b2) (.i .i64 x)) λaT=>
 gF aT λxs=>
 some (.inl [.list xs,.i .i64 (c9 .i64 (i+1))])) (
 some (.inr (2,[.list b2])))) [.list b1,.i .i64 0]) λp=>
 bP (sh p.1 2)<|
 gC p.2 λm8 rX=>
 gL m8 λb3=>
 gN rX<|
 bd (rH (.list b3) (.s Value)) λcf=>
 gF cf λzy=>
 bd (Ei (.list zy) (.list Names)) λfH=>
 gF fH λJd=>
 some (.list Jd)
def Ej:GT:=bt 136 (dy sU) QV
theorem Fw:SG Ej:=sn Oh [] [] 36 [27,31] [] [] [] [] [] [(3,⟨[3,5],[15],[(0,.sc (.k .l)),(6,.sc (.k (.i .i64)))],[(2,[(0,.sc (.k .l))])],[15,35]⟩)] [] Tryz.func136 (by kernel_rfl) (bg (λ_ _=>by kernel_rfl))
def Az (a:MV):Option MV:=gA a λcs=>
 eT cs λch bT dD cn Seen=>
 aV ch λlen=>
 bd (jF (.list ([]:List MV)) (.i .i64 (len:Int))) λrA=>
 gF rA λxs=>
 bd (Loop (λka=>
 Fo ka λx x1=>
 aV ch λcX=>
 aW (decide (x1<(cX:Int))) (
 idx ch x1 λy=>
 gA y λdU=>
 gx dU λPath Value Version b5=>
 bd (rH (.list x) (.s Path)) λaT=>
 gF aT λzy=>
 bd (rH (.list zy) (.s Value)) λcf=>
 gF cf λJd=>
 bd (jF (.list Jd) (.i .i64 Version)) λfH=>
 gF fH λX8=>
 bd (jF (.list X8) (.i .i64 b5)) λn0=>
 gF n0 λxs4=>
 some (.inl [.list xs4,.i .i64 (c9 .i64 (x1+1))])) (
 some (.inr (2,[.list x])))) [.list xs,.i .i64 0]) λp=>
 bP (sh p.1 2)<|
 gC p.2 λTb Ar=>
 gL Tb λx2=>
 gN Ar<|
 bd (jF (.list x2) (.i .i64 bT)) λqn=>
 gF qn λxs5=>
 aV dD λdz=>
 bd (jF (.list xs5) (.i .i64 (dz:Int))) λmT=>
 gF mT λxs6=>
 bd (Loop (λwW=>
 Fo wW λx3 x4=>
 aV dD λiR=>
 aW (decide (x4<(iR:Int))) (
 idx dD x4 λy1=>
 gA y1 λmQ=>
 xY mQ λId Span dX=>
 bd (jF (.list x3) (.i .i64 Id)) λEO=>
 gF EO λxs7=>
 bd (jF (.list xs7) (.i .i64 Span)) λKU=>
 gF KU λxs8=>
 bd (jF (.list xs8) (.i .i64 dX)) λKV=>
 gF KV λxs9=>
 some (.inl [.list xs9,.i .i64 (c9 .i64 (x4+1))])) (
 some (.inr (4,[.list x3])))) [.list xs6,.i .i64 0]) λp1=>
 bP (sh p1.1 4)<|
 gC p1.2 λTc DI=>
 gL Tc λx5=>
 gN DI<|
 aV cn λkj=>
 bd (jF (.list x5) (.i .i64 (kj:Int))) λwJ=>
 gF wJ λaip=>
 bd (Loop (λjz=>
 Fo jz λx6 x7=>
 aV cn λuD=>
 aW (decide (x7<(uD:Int))) (
 idx cn x7 λy2=>
 gA y2 λmE=>
 Ai mE λew Client Kids=>
 bd (rH (.list x6) (.s ew)) λCB=>
 gF CB λaiq=>
 bd (jF (.list aiq) (.i .i64 Client)) λGU=>
 gF GU λaaG=>
 bd (
 aW Kids (
 bd (jF (.list aaG) (.i .i64 1)) λKW=>
 gF KW λaee=>
 some (0,[.list aee])) (
 bd (jF (.list aaG) (.i .i64 0)) λKX=>
 gF KX λaaH=>
 some (0,[.list aaH]))) λp3=>
 bP (sh p3.1 0)<|
 gC p3.2 λNZ Qv=>
 gL NZ λx8=>
 gN Qv<|
 some (.inl [.list x8,.i .i64 (c9 .i64 (x7+1))])) (
 some (.inr (6,[.list x6])))) [.list aip,.i .i64 0]) λp2=>
 bP (sh p2.1 6)<|
 gC p2.2 λm24 aaI=>
 gL m24 λx9=>
 gN aaI<|
 aV Seen λCC=>
 bd (jF (.list x9) (.i .i64 (CC:Int))) λFl=>
 gF Fl λair=>
 bd (Loop (λDT=>
 Fo DT λqq rW=>
 aV Seen λNY=>
 aW (decide (rW<(NY:Int))) (
 idx Seen rW λy3=>
 gA y3 λN0=>
 cO N0 λbZ Seq E cC bF Names=>
 bd (sU (.list qq) (.agg (bK bZ Seq E cC bF Names))) λNT=>
 gL NT λzw=>
 some (.inl [.list zw,.i .i64 (c9 .i64 (rW+1))])) (
 some (.inr (8,[.list qq])))) [.list air,.i .i64 0]) λp4=>
 bP (sh p4.1 8)<|
 gC p4.2 λm33 tU=>
 gL m33 λzx=>
 gN tU<|
 some (.list zx)
def QW:GT:=bt 69 (nX Az) Ej
theorem Oi:SG QW:=sn Fw [] [] 137 [15,33,37,41,45,50,56,74,78,82,88,106,110,114,116,121] [] [] [] [] [(27,⟨[1,8],[],[],[(0,[(3,.sc (.k .l))])],[]⟩)] [(31,⟨[1],[],[(3,.sc (.k .l)),(10,.sc (.k (.i .i64)))],[(8,[(3,.sc (.k .l))])],[]⟩),(21,⟨[1],[],[(3,.sc (.k .l)),(8,.sc (.k (.i .i64)))],[(6,[(3,.sc (.k .l))])],[]⟩),(13,⟨[1],[],[(3,.sc (.k .l)),(6,.sc (.k (.i .i64)))],[(4,[(3,.sc (.k .l))])],[]⟩),(3,⟨[1],[],[(3,.sc (.k .l)),(4,.sc (.k (.i .i64)))],[(2,[(3,.sc (.k .l))])],[]⟩)] [] Tryz.func69 (by kernel_rfl) (dP (λ_=>by kernel_rfl))
def Ek (a b:MV):Option MV:=gA a λcs=>
 eT cs λch bT dD cn Seen=>
 gA b λdU=>
 eT dU λjd gG mq jE sr=>
 bd (Az (.agg (cm ch bT dD cn Seen))) λrA=>
 gL rA λx=>
 HQ x λbs=>
 bd (Az (.agg (cm jd gG mq jE sr))) λaT=>
 gL aT λx1=>
 HQ x1 λbs1=>
 some (.b (decide (bs=bs1)))
def QX:GT:=bt 21 (dy Ek) QW
theorem Oj:SG QX:=sn Oi [] [] 12 [] [] [] [(1,[0,3,1,2,4,5,6,7])] [] [] [] [] Tryz.func21 (by kernel_rfl) (bg (λ_ _=>by kernel_rfl))
def vt (a b:MV):Option MV:=gL a λa1=>
 gL b λb1=>
 aV a1 λlen=>
 aV b1 λcX=>
 aW (!decide ((len:Int)=(cX:Int))) (
 some (.b false)) (
 bd (Loop (λfg=>
 gC fg λm eg=>
 gI .i64 m λi=>
 gN eg<|
 aV a1 λdz=>
 aW (decide (i<(dz:Int))) (
 idx a1 i λy=>
 gS y λx=>
 idx b1 i λy1=>
 gS y1 λx1=>
 aW (!decide (x=x1)) (
 some (.inr (1,[.b false]))) (
 some (.inl [.i .i64 (c9 .i64 (i+1))]))) (
 some (.inr (2,[])))) [.i .i64 0]) λp=>
 aW (sh p.1 2) (
 gN p.2<|
 some (.b true)) (
 bP (sh p.1 1)<|
 gC p.2 λm1 jg=>
 gB m1 λx2=>
 gN jg<|
 some (.b x2)))
def Gu:GT:=bt 70 (dy vt) QX
theorem G8:SG Gu:=sn Oj [] [] 26 [] [] [] [(6,[0,1,2,3,4,5,6,7,8])] [] [] [(4,⟨[0,1],[],[(5,.sc (.k (.i .i64)))],[(1,[(4,.sc (.k .b))]),(2,[])],[]⟩)] [] Tryz.func70 (by kernel_rfl) (bg (λ_ _=>by kernel_rfl))
def El (a b:MV):Option MV:=gA a λcs=>
 cO cs λClient Seq E Value Version Names=>
 gA b λdU=>
 cO dU λbZ j9 E1 cC bF ke=>
 bd (
 aW (decide (Client=bZ)) (
 aW (decide (Seq=j9)) (
 aW (decide (E=E1)) (
 aW (decide (Value=cC)) (
 aW (decide (Version=bF)) (
 bd (vt (.list Names) (.list ke)) λrA=>
 gB rA λx=>
 some [.b x]) (
 some [.b false])) (
 some [.b false])) (
 some [.b false])) (
 some [.b false])) (
 some [.b false])) λvs=>
 gC vs λm12 Ar=>
 gB m12 λx1=>
 gN Ar<|
 some (.b x1)
def QY:GT:=bt 22 (dy El) Gu
theorem Ok:SG QY:=kO G8 [] 45 [(1,⟨[2,3],[],[],[(0,[(4,.sc (.k .b))])],[]⟩)] [] [] Tryz.func22 (by kernel_rfl) (bg (λ_ _=>by kernel_rfl))
def yE (a b:MV):Option MV:=gL a λa1=>
 gL b λb1=>
 aV a1 λlen=>
 aV b1 λcX=>
 aW (!decide ((len:Int)=(cX:Int))) (
 some (.b false)) (
 bd (Loop (λfg=>
 gC fg λm eg=>
 gI .i64 m λi=>
 gN eg<|
 aV a1 λdz=>
 aW (decide (i<(dz:Int))) (
 idx a1 i λy=>
 gA y λcs=>
 NV cs λVq HC Vr agw agx=>
 idx b1 i λy1=>
 gA y1 λdU=>
 NV dU λaa3 QZ aa4 Ol Om=>
 aW (!((decide (Vq=aa3))&&((decide (HC=QZ))&&((decide (Vr=aa4))&&((decide (agw=Ol))&&(decide (agx=Om))))))) (
 some (.inr (1,[.b false]))) (
 some (.inl [.i .i64 (c9 .i64 (i+1))]))) (
 some (.inr (2,[])))) [.i .i64 0]) λp=>
 aW (sh p.1 2) (
 gN p.2<|
 some (.b true)) (
 bP (sh p.1 1)<|
 gC p.2 λTb Ar=>
 gB Tb λx=>
 gN Ar<|
 some (.b x)))
def JU:GT:=bt 24 (dy yE) QY
theorem JV:SG JU:=sn Ok [] [] 26 [] [] [] [(6,[0,1,2,3,4,5,6,7,8])] [] [] [(4,⟨[0,1],[],[(5,.sc (.k (.i .i64)))],[(1,[(4,.sc (.k .b))]),(2,[])],[]⟩)] [] Tryz.func24 (by kernel_rfl) (bg (λ_ _=>by kernel_rfl))
def yF (lA:MV):Option MV:=gL lA λpT=>
 bd (Loop (λfg=>
 Fo fg λout i=>
 aV pT λlen=>
 aW (decide (i<(len:Int))) (
 idx pT i λy=>
 gA y λcs=>
 NV cs λVq HC Vr agw agx=>
 idx pT i λy1=>
 gA y1 λdU=>
 NV dU λaa3 QZ aa4 Ol Om=>
 aV out λcX=>
 aV ([.agg [.s Vq,.i .i64 HC,.b Vr,.i .i64 Ol,.s Om]]:List MV) λdz=>
 bP (decide ((cX+dz) *56<=2^46))<|
 some (.inl [.list (out++([.agg [.s Vq,.i .i64 HC,.b Vr,.i .i64 Ol,.s Om]]:List MV)),.i .i64 (c9 .i64 (i+1))])) (
 some (.inr (2,[.list out])))) [.list ([]:List MV),.i .i64 0]) λp=>
 bP (sh p.1 2)<|
 gC p.2 λm12 wW=>
 gL m12 λjy=>
 gN wW<|
 some (.list jy)
def JW:GT:=bt 25 (nX yF) JU
theorem JX:SG JW:=sn JV [] [] 41 [38] [23] [] [(5,[0,1,2,3,4,5,6,7,8,9,10,11,12,13])] [] [] [(3,⟨[0],[],[(3,.sc (.own 7 157 true)),(4,.sc (.k (.i .i64)))],[(2,[(3,.sc (.own 7 157 true))])],[7]⟩)] [] Tryz.func25 (by kernel_rfl) (dP (λ_=>by kernel_rfl))
def qx (rA lA:MV):Option MV:=gA rA λcs=>
 eT cs λch bT dD cn Seen=>
 gL lA λpT=>
 aV pT λlen=>
 bd (Loop (λka=>
 gC ka λm5 kG=>
 gL m5 λaT=>
 gC kG λm6 kb=>
 gI .i64 m6 λcf=>
 gC kb λm7 kc=>
 gL m7 λfH=>
 gC kc λm8 rX=>
 gL m8 λn0=>
 gC rX λm9 lc=>
 gL m9 λqn=>
 GV lc λout events x=>
 aW (decide (x<(len:Int))) (
 idx pT x λy=>
 gA y λdU=>
 fE dU λClient Seq Kind Path Value Version Session Span=>
 bd (oJ (.agg (cm aT cf fH n0 qn)) (.agg (cU Client Seq Kind Path Value Version Session Span))) λmT=>
 gT mT λvs=>
 gC vs λK3 pq=>
 gA K3 λmQ=>
 eT mQ λjd gG mq jE sr=>
 gC pq λm27 DT=>
 gA m27 λmE=>
 cO mE λbZ j9 E cC bF Names=>
 gC DT λm34 D9=>
 gL m34 λx1=>
 gN D9<|
 aV out λcX=>
 aV ([.agg (bK bZ j9 E cC bF Names)]:List MV) λdz=>
 bP (decide ((cX+dz) *72<=2^46))<|
 bP (nS 5 x1)<|
 aV events λiR=>
 aV x1 λkj=>
 bP (decide ((iR+kj) *56<=2^46))<|
 some (.inl [.list jd,.i .i64 gG,.list mq,.list jE,.list sr,.list (out++([.agg (bK bZ j9 E cC bF Names)]:List MV)),.list (events++x1),.i .i64 (c9 .i64 (x+1))])) (
 some (.inr (2,[.list aT,.i .i64 cf,.list fH,.list n0,.list qn,.list out,.list events])))) [.list ch,.i .i64 bT,.list dD,.list cn,.list Seen,.list ([]:List MV),.list ([]:List MV),.i .i64 0]) λp=>
 bP (sh p.1 2)<|
 gC p.2 λm35 DQ=>
 gL m35 λEO=>
 gC DQ λm36 tU=>
 gI .i64 m36 λKU=>
 gC tU λm37 Al=>
 gL m37 λKV=>
 gC Al λm38 Am=>
 gL m38 λwJ=>
 gC Am λm39 DU=>
 gL m39 λCB=>
 O7 DU λjy On=>
 some (.cg [.agg (cm EO KU KV wJ CB),.list jy,.list On])
def JY:GT:=bt 28 (dy qx) JW
theorem JZ:SG JY:=sn JX [] [] 39 [29] [] [] [] [] [] [(4,⟨[4,14,15],[],[(2,.box [.k .l,.k (.i .i64),.k .l,.k .l,.k .l]),(7,.sc (.own 30 57 true)),(8,.sc (.own 33 79 true)),(16,.sc (.k (.i .i64)))],[(2,[(2,.box [.k .l,.k (.i .i64),.k .l,.k .l,.k .l]),(7,.sc (.own 30 57 true)),(8,.sc (.own 33 79 true))])],[30,33]⟩)] [] Tryz.func28 (by kernel_rfl) (bg (λ_ _=>by kernel_rfl))
def Em (rA lA:MV):Option MV:=gA rA λcs=>
 eT cs λch bT dD cn Seen=>
 gL lA λpT=>
 bd (Loop (λka=>
 gC ka λm5 kG=>
 gL m5 λaT=>
 gC kG λm6 kb=>
 gI .i64 m6 λcf=>
 gC kb λm7 kc=>
 gL m7 λfH=>
 gC kc λm8 rX=>
 gL m8 λn0=>
 gC rX λm9 lc=>
 gL m9 λqn=>
 GV lc λout events i=>
 aV pT λlen=>
 aW (decide (i<(len:Int))) (
 idx pT i λy=>
 gA y λdU=>
 fE dU λClient Seq Kind Path Value Version Session Span=>
 bd (Bt (.agg (cm aT cf fH n0 qn)) (.agg (cU Client Seq Kind Path Value Version Session Span))) λmT=>
 gT mT λvs=>
 gC vs λK3 pq=>
 gA K3 λmQ=>
 eT mQ λjd gG mq jE sr=>
 gC pq λm27 DT=>
 gA m27 λmE=>
 cO mE λbZ j9 E cC bF Names=>
 gC DT λm34 D9=>
 gL m34 λx=>
 gN D9<|
 aV out λcX=>
 aV ([.agg (bK bZ j9 E cC bF Names)]:List MV) λdz=>
 bP (decide ((cX+dz) *72<=2^46))<|
 bP (nS 5 x)<|
 aV events λiR=>
 aV x λkj=>
 bP (decide ((iR+kj) *56<=2^46))<|
 some (.inl [.list jd,.i .i64 gG,.list mq,.list jE,.list sr,.list (out++([.agg (bK bZ j9 E cC bF Names)]:List MV)),.list (events++x),.i .i64 (c9 .i64 (i+1))])) (
 some (.inr (2,[.list aT,.i .i64 cf,.list fH,.list n0,.list qn,.list out,.list events])))) [.list ch,.i .i64 bT,.list dD,.list cn,.list Seen,.list ([]:List MV),.list ([]:List MV),.i .i64 0]) λp=>
 bP (sh p.1 2)<|
 gC p.2 λm35 DQ=>
 gL m35 λEO=>
 gC DQ λm36 tU=>
 gI .i64 m36 λKU=>
 gC tU λm37 Al=>
 gL m37 λKV=>
 gC Al λm38 Am=>
 gL m38 λwJ=>
 gC Am λm39 DU=>
 gL m39 λCB=>
 O7 DU λjy On=>
 some (.cg [.agg (cm EO KU KV wJ CB),.list jy,.list On])
def Q0:GT:=bt 29 (dy Em) JY
theorem Oo:SG Q0:=sn JZ [] [] 42 [33] [] [] [(5,[0,1,2,3,4,5,6,7,8,9,10,11,12,13,14])] [] [] [(3,⟨[1,4],[],[(2,.box [.k .l,.k (.i .i64),.k .l,.k .l,.k .l]),(7,.sc (.own 13 61 true)),(8,.sc (.own 14 157 true)),(9,.sc (.k (.i .i64)))],[(2,[(2,.box [.k .l,.k (.i .i64),.k .l,.k .l,.k .l]),(7,.sc (.own 13 61 true)),(8,.sc (.own 14 157 true))])],[13,14]⟩)] [] Tryz.func29 (by kernel_rfl) (bg (λ_ _=>by kernel_rfl))
def HD:Option MV:=some (.agg [.list ([.agg (fc ([47]:List UInt8) ([]:List UInt8) 0 0)]:List MV)])
def Vs:GT:=bt 75 (NG HD) Q0
theorem Q1:SG Vs:=kO Oo [] 4 [] [] [] Tryz.func75 (by kernel_rfl) (xR (by kernel_rfl))
def HE:Option MV:=bd (HD) λrA=>
 gA rA λcs=>
 gC cs λm fg=>
 gL m λL=>
 gN fg<|
 some (.agg (cm L 0 ([]:List MV) ([]:List MV) ([]:List MV)))
def Vt:GT:=bt 30 (NG HE) Vs
theorem Q2:SG Vt:=kO Q1 [] 3 [] [] [] Tryz.func30 (by kernel_rfl) (xR (by kernel_rfl))
def HF (lA:MV):Option MV:=gL lA λpT=>
 bd (Loop (λfg=>
 Fo fg λout i=>
 aV pT λlen=>
 aW (decide (i<(len:Int))) (
 idx pT i λy=>
 gA y λcs=>
 fE cs λClient Seq Kind Path Value Version Session Span=>
 bd (HB (.agg (cU Client Seq Kind Path Value Version Session Span))) λrA=>
 gA rA λdU=>
 fE dU λbZ j9 Gj ew cC bF Aj pU=>
 aV out λcX=>
 aV ([.agg (cU bZ j9 Gj ew cC bF Aj pU)]:List MV) λdz=>
 bP (decide ((cX+dz) *80<=2^46))<|
 some (.inl [.list (out++([.agg (cU bZ j9 Gj ew cC bF Aj pU)]:List MV)),.i .i64 (c9 .i64 (i+1))])) (
 some (.inr (2,[.list out])))) [.list ([]:List MV),.i .i64 0]) λp=>
 bP (sh p.1 2)<|
 gC p.2 λm18 DI=>
 gL m18 λjy=>
 gN DI<|
 some (.list jy)
def Vu:GT:=bt 31 (nX HF) Vt
theorem Q3:SG Vu:=sn Q2 [] [] 21 [18] [] [] [] [] [] [(3,⟨[0],[],[(3,.sc (.own 5 65 true)),(4,.sc (.k (.i .i64)))],[(2,[(3,.sc (.own 5 65 true))])],[5]⟩)] [] Tryz.func31 (by kernel_rfl) (dP (λ_=>by kernel_rfl))
def rI (a b:MV):Option MV:=gL a λa1=>
 gL b λb1=>
 aV a1 λlen=>
 aV b1 λcX=>
 aW (!decide ((len:Int)=(cX:Int))) (
 some (.b false)) (
 bd (Loop (λfg=>
 gC fg λm eg=>
 gI .i64 m λi=>
 gN eg<|
 aV a1 λdz=>
 aW (decide (i<(dz:Int))) (
 idx a1 i λy=>
 gA y λcs=>
 cO cs λClient Seq E Value Version Names=>
 idx b1 i λy1=>
 gA y1 λdU=>
 cO dU λbZ j9 E1 cC bF ke=>
 bd (El (.agg (bK Client Seq E Value Version Names)) (.agg (bK bZ j9 E1 cC bF ke))) λrA=>
 gB rA λx=>
 aW (!x) (
 some (.inr (1,[.b false]))) (
 some (.inl [.i .i64 (c9 .i64 (i+1))]))) (
 some (.inr (2,[])))) [.i .i64 0]) λp=>
 aW (sh p.1 2) (
 gN p.2<|
 some (.b true)) (
 bP (sh p.1 1)<|
 gC p.2 λQp DY=>
 gB Qp λx1=>
 gN DY<|
 some (.b x1)))
def Gv:GT:=bt 32 (dy rI) Vu
theorem G9:SG Gv:=sn Q3 [] [] 27 [] [] [] [(6,[0,1,2,3,4,5,6,7,8,9])] [] [] [(4,⟨[0,1],[],[(5,.sc (.k (.i .i64)))],[(1,[(4,.sc (.k .b))]),(2,[])],[]⟩)] [] Tryz.func32 (by kernel_rfl) (bg (λ_ _=>by kernel_rfl))
def um (a a1:MV):Option MV:=gL a λa2=>
 gI .i64 a1 λiK=>
 bd (Bi (.list a2)) λrA=>
 gB rA λx=>
 aW (!x) (
 bd (xc) λaT=>
 gB aT λx1=>
 some (.b x1)) (
 bd (s8) λcf=>
 gA cf λcs=>
 eT cs λch bT dD cn Seen=>
 bd (qx (.agg (cm ch bT dD cn Seen)) (.list a2)) λfH=>
 gT fH λvs=>
 gC vs λm5 ka=>
 gA m5 λdU=>
 eT dU λjd gG mq jE sr=>
 O7 ka λx2 x3=>
 bd (HE) λn0=>
 gA n0 λmQ=>
 eT mQ λHw D6 N4 Hx Vg=>
 bd (HF (.list a2)) λqn=>
 gL qn λx4=>
 bd (Em (.agg (cm Hw D6 N4 Hx Vg)) (.list x4)) λmT=>
 gT mT λjJ=>
 gC jJ λm18 wT=>
 gA m18 λmE=>
 eT mE λaev aa5 aiH aew amt=>
 O7 wT λx5 x6=>
 bd (
 bd (Bk (.agg (cm jd gG mq jE sr))) λEO=>
 gA EO λN0=>
 eT N0 λaex aa6 aiI aey amu=>
 bd (Ek (.agg (cm aex aa6 aiI aey amu)) (.agg (cm aev aa5 aiH aew amt))) λKU=>
 gB KU λx7=>
 aW (!x7) (
 some [.b true]) (
 bd (mi (.list x2)) λKV=>
 gL KV λx8=>
 bd (rI (.list x8) (.list x5)) λwJ=>
 gB wJ λx9=>
 aW (!x9) (
 some [.b true]) (
 bd (yF (.list x3)) λCB=>
 gL CB λqq=>
 bd (yE (.list qq) (.list x6)) λGU=>
 gB GU λrW=>
 some [.b (!rW)]))) λpP=>
 gC pP λm31 JO=>
 gB m31 λzw=>
 gN JO<|
 aW zw (
 some (.b false)) (
 aV a2 λlen=>
 aV a2 λcX=>
 bP (decide ((0:Int)<=0/\(0:Int)<=(nT (imax iK 0) (len:Int))/\(nT (imax iK 0) (len:Int))<=(cX:Int)))<|
 bd (s8) λKW=>
 gA KW λWZ=>
 eT WZ λaez aa7 aiJ aeA amv=>
 bd (qx (.agg (cm aez aa7 aiJ aeA amv)) (.list (By (AI 0) (BY (AI (nT (imax iK 0) (len:Int))) a2)))) λKX=>
 gT KX λWY=>
 gC WY λm37 tU=>
 gA m37 λcs6=>
 eT cs6 λaeB aa8 aiK aeC amw=>
 O7 tU λzx CY=>
 bP (nS 8 a2)<|
 aV a2 λdz=>
 bP (decide ((0:Int)<=(nT (imax iK 0) (len:Int))/\(nT (imax iK 0) (len:Int))<=(dz:Int)/\(dz:Int)<=(dz:Int)))<|
 bd (qx (.agg (cm aeB aa8 aiK aeC amw)) (.list (By (AI (nT (imax iK 0) (len:Int))) (BY (AI (dz:Int)) a2)))) λFl=>
 gT Fl λvs4=>
 gC vs4 λm45 Qw=>
 gA m45 λcs7=>
 eT cs7 λaeD aa9 aiL aeE amx=>
 O7 Qw λBh DF=>
 bd (
 bd (xc) λNT=>
 gB NT λDG=>
 aW DG (
 bd (ul (.agg (cm aeD aa9 aiL aeE amx)) (.agg (cm jd gG mq jE sr))) λadR=>
 gB adR λDH=>
 aW DH (
 aV Bh λiR=>
 aV a2 λkj=>
 aW (decide ((iR:Int)=(c9 .i64 ((kj:Int)-(nT (imax iK 0) (len:Int)))))) (
 bP (nS 6 x2)<|
 aV x2 λuD=>
 bP (decide ((0:Int)<=(nT (imax iK 0) (len:Int))/\(nT (imax iK 0) (len:Int))<=(uD:Int)/\(uD:Int)<=(uD:Int)))<|
 bd (mi (.list Bh)) λaao=>
 gL aao λFm=>
 bd (mi (.list (By (AI (nT (imax iK 0) (len:Int))) (BY (AI (uD:Int)) x2)))) λaap=>
 gL aap λMq=>
 bd (rI (.list Fm) (.list Mq)) λadS=>
 gB adS λO8=>
 some [.b O8]) (
 some [.b false])) (
 some [.b false])) (
 some [.b false])) λvs5=>
 gC vs5 λm53 amy=>
 gB m53 λVd=>
 gN amy<|
 some (.b Vd)))
def J0:GT:=bt 5 (dy um) Gv
theorem CJ:SG J0:=sn G9 [] [] 103 [] [] [] [(5,[0,2,1,3,4,5,6,8,7,9,10,11,12,13,15,14,16,17,18]),(8,[1,2,3,0,4,5,6,7,8,9,10,11,12]),(9,[0,1,2,3,4,5,6,7,8,9,10,11,12]),(10,[0,1,2,3,4,5,6,7,8,9,10,11,12,13,14,15,16,18,19,20,17,21,22,23,24])] [(10,⟨[0,5,6,11,15,16],[],[],[(0,[(4,.sc (.k .b))])],[]⟩),(5,⟨[0,1,5,6,7,8,9,10],[],[],[(0,[(55,.sc (.k .b))])],[]⟩)] [] [] [] Tryz.func5 (by kernel_rfl) (bg (λ_ _=>by kernel_rfl))
end
end Dn.S
