import Derived.Test.YtbkodohojpchjaaGreatDoorDnYTab
import Derived.Test.YtbkodohojpchjaaGreatDoorDnC
import Derived.Test.YtbkodohojpchjaaGreatDoorDnD
import Derived.Test.YtbkodohojpchjaaGreatDoorDnYT
import Derived.KernelRfl
import Derived.Test.YtbkodohojpchjaaGreatDoorProg
/-
  The functions, on plain values, and their contracts. Conditions: none.
-/
open Go Dn Go.Proofs
set_option linter.unusedVariables false
set_option linter.unusedSimpArgs false
set_option maxRecDepth 100000
namespace Dn.S
theorem ov:kK Tryz.prog (wm LV):=Yf (by kernel_rfl)
theorem VD:NR Tryz.prog (wm LV):=RD (by kernel_rfl)
theorem xC:Tryz.prog.follows .mixedOrders=true:=by kernel_rfl
def ON {R:Type} (k0:IntKind) (l0:List MV) (K:Int→Bool→Option R):Option R:=gC l0 fun m0 l1=>gI k0 m0 fun x0=>gC l1 fun m1 l2=>gB m1 fun x1=>gN l2<|K x0 x1
def Nt {R:Type} (k0 k1:IntKind) (l0:List MV) (K:Int→Int→Option R):Option R:=gC l0 fun m0 l1=>gI k0 m0 fun x0=>gC l1 fun m1 l2=>gI k1 m1 fun x1=>gN l2<|K x0 x1
def Ci {R:Type} (k0 k1 k2:IntKind) (l0:List MV) (K:Int→Int→Int→Option R):Option R:=gC l0 fun m0 l1=>gI k0 m0 fun x0=>gC l1 fun m1 l2=>gI k1 m1 fun x1=>gC l2 fun m2 l3=>gI k2 m2 fun x2=>gN l3<|K x0 x1 x2
def cF {R:Type} (k0 k1 k2 k4:IntKind) (l0:List MV) (K:Int→Int→Int→List UInt8→Int→List MV→Option R):Option R:=gC l0 fun m0 l1=>gI k0 m0 fun x0=>gC l1 fun m1 l2=>gI k1 m1 fun x1=>gC l2 fun m2 l3=>gI k2 m2 fun x2=>gC l3 fun m3 l4=>gS m3 fun x3=>gC l4 fun m4 l5=>gI k4 m4 fun x4=>gC l5 fun m5 l6=>gL m5 fun x5=>gN l6<|K x0 x1 x2 x3 x4 x5
def jg {R:Type} (k0 k1 k2 k5 k6 k7:IntKind) (l0:List MV) (K:Int→Int→Int→List UInt8→List UInt8→Int→Int→Int→Option R):Option R:=gC l0 fun m0 l1=>gI k0 m0 fun x0=>gC l1 fun m1 l2=>gI k1 m1 fun x1=>gC l2 fun m2 l3=>gI k2 m2 fun x2=>gC l3 fun m3 l4=>gS m3 fun x3=>gC l4 fun m4 l5=>gS m4 fun x4=>gC l5 fun m5 l6=>gI k5 m5 fun x5=>gC l6 fun m6 l7=>gI k6 m6 fun x6=>gC l7 fun m7 l8=>gI k7 m7 fun x7=>gN l8<|K x0 x1 x2 x3 x4 x5 x6 x7
def Nu {R:Type} (k0:IntKind) (l0:List MV) (K:Int→List MV→Option R):Option R:=gC l0 fun m0 l1=>gI k0 m0 fun x0=>gC l1 fun m1 l2=>gL m1 fun x1=>gN l2<|K x0 x1
def VE {R:Type} (l0:List MV) (K:List MV→Bool→Option R):Option R:=gC l0 fun m0 l1=>gL m0 fun x0=>gC l1 fun m1 l2=>gB m1 fun x1=>gN l2<|K x0 x1
def Mn {R:Type} (k1:IntKind) (l0:List MV) (K:List MV→Int→Option R):Option R:=gC l0 fun m0 l1=>gL m0 fun x0=>gC l1 fun m1 l2=>gI k1 m1 fun x1=>gN l2<|K x0 x1
def gf {R:Type} (k1:IntKind) (l0:List MV) (K:List MV→Int→List MV→List MV→List MV→Option R):Option R:=gC l0 fun m0 l1=>gL m0 fun x0=>gC l1 fun m1 l2=>gI k1 m1 fun x1=>gC l2 fun m2 l3=>gL m2 fun x2=>gC l3 fun m3 l4=>gL m3 fun x3=>gC l4 fun m4 l5=>gL m4 fun x4=>gN l5<|K x0 x1 x2 x3 x4
def az {R:Type} (k1 k5 k6 k7 k10 k11 k12 k13 k14 k15 k17:IntKind) (l0:List MV) (K:List MV→Int→List MV→List MV→List MV→Int→Int→Int→List UInt8→List UInt8→Int→Int→Int→Int→Int→Int→List UInt8→Int→List MV→List MV→Option R):Option R:=gC l0 fun m0 l1=>gL m0 fun x0=>gC l1 fun m1 l2=>gI k1 m1 fun x1=>gC l2 fun m2 l3=>gL m2 fun x2=>gC l3 fun m3 l4=>gL m3 fun x3=>gC l4 fun m4 l5=>gL m4 fun x4=>gC l5 fun m5 l6=>gI k5 m5 fun x5=>gC l6 fun m6 l7=>gI k6 m6 fun x6=>gC l7 fun m7 l8=>gI k7 m7 fun x7=>gC l8 fun m8 l9=>gS m8 fun x8=>gC l9 fun m9 l10=>gS m9 fun x9=>gC l10 fun R5 l11=>gI k10 R5 fun za=>gC l11 fun VF l12=>gI k11 VF fun BN=>gC l12 fun VG l13=>gI k12 VG fun C7=>gC l13 fun VH l14=>gI k13 VH fun Cj=>gC l14 fun m14 l15=>gI k14 m14 fun DD=>gC l15 fun m15 l16=>gI k15 m15 fun DE=>gC l16 fun m16 l17=>gS m16 fun Ft=>gC l17 fun m17 l18=>gI k17 m17 fun DF=>gC l18 fun YZ l19=>gL YZ fun Fu=>gC l19 fun Y0 l20=>gL Y0 fun GZ=>gN l20<|K x0 x1 x2 x3 x4 x5 x6 x7 x8 x9 za BN C7 Cj DD DE Ft DF Fu GZ
def zb {R:Type} (k1:IntKind) (l0:List MV) (K:List UInt8→Int→Bool→Option R):Option R:=gC l0 fun m0 l1=>gS m0 fun x0=>gC l1 fun m1 l2=>gI k1 m1 fun x1=>gC l2 fun m2 l3=>gB m2 fun x2=>gN l3<|K x0 x1 x2
def j6 {R:Type} (k2 k3:IntKind) (l0:List MV) (K:List UInt8→List UInt8→Int→Int→Option R):Option R:=gC l0 fun m0 l1=>gS m0 fun x0=>gC l1 fun m1 l2=>gS m1 fun x1=>gC l2 fun m2 l3=>gI k2 m2 fun x2=>gC l3 fun m3 l4=>gI k3 m3 fun x3=>gN l4<|K x0 x1 x2 x3
@[reducible] def dM (x0 : Int) (x1 : Int) (x2 : Int) (x3 : List UInt8) (x4 : Int) (x5 : List MV) : List MV := [.i .i64 x0, .i .i64 x1, .i .i64 x2, .s x3, .i .i64 x4, .list x5]
@[reducible] def dr (x0 : Int) (x1 : Int) (x2 : Int) (x3 : List UInt8) (x4 : List UInt8) (x5 : Int) (x6 : Int) (x7 : Int) : List MV := [.i .i64 x0, .i .i64 x1, .i .i64 x2, .s x3, .s x4, .i .i64 x5, .i .i64 x6, .i .i64 x7]
@[reducible] def cY (x0 : List MV) (x1 : Int) (x2 : List MV) (x3 : List MV) (x4 : List MV) : List MV := [.list x0, .i .i64 x1, .list x2, .list x3, .list x4]
@[reducible] def qA (x0 : List MV) (x1 : Int) (x2 : List MV) (x3 : List MV) (x4 : List MV) (x5 : Int) : List MV := [.list x0, .i .i64 x1, .list x2, .list x3, .list x4, .i .i64 x5]
@[reducible] def ar (x0 : List MV) (x1 : Int) (x2 : List MV) (x3 : List MV) (x4 : List MV) (x5 : Int) (x6 : Int) (x7 : Int) (x8 : List UInt8) (x9 : List UInt8) (za : Int) (BN : Int) (C7 : Int) (Cj : Int) (DD : Int) (DE : Int) (Ft : List UInt8) (DF : Int) (Fu : List MV) (GZ : List MV) : List MV := [.list x0, .i .i64 x1, .list x2, .list x3, .list x4, .i .i64 x5, .i .i64 x6, .i .i64 x7, .s x8, .s x9, .i .i64 za, .i .i64 BN, .i .i64 C7, .i .i64 Cj, .i .i64 DD, .i .i64 DE, .s Ft, .i .i64 DF, .list Fu, .list GZ]
@[reducible] def ml (x0 : List UInt8) (x1 : List UInt8) (x2 : Int) (x3 : Int) : List MV := [.s x0, .s x1, .i .i64 x2, .i .i64 x3]
def Qv:List (Nat×qV)→Nat→qV
 |[],_=>default
 |(k,s)::r,t=>bif Nat.beq k t then s else Qv r t
def VI:List (Nat×List Nat)→Nat→List Nat
 |[],_=>[]
 |(k,s)::r,t=>bif Nat.beq k t then s else VI r t
def VJ:List (Nat×Nat)→Nat→Nat
 |[],_=>0
 |(k,s)::r,t=>bif Nat.beq k t then s else VJ r t
def kk (n:Nat):Nat:=n
def gv (n:Nat):Bool:=bE [63,218,223,225,227,105,106,107,108,109,110,111,112,113,114,115,118,171,179] n
def frs (n:Nat):Bool:=bE [61,63,116,117,194,218,219,223,225,226,227] n
def aa2:List (Nat×Nat):=[(61,57),(63,57),(116,75),(117,75),(194,9),(218,98),(219,98),(223,98),(225,126),(226,126),(227,126)]
def Qw:List (Nat×FloatKind)→Nat→Option FloatKind
 |[],_=>none
 |(k,s)::r,t=>bif Nat.beq k t then some s else Qw r t
def VK:List (Nat×FloatKind):=[]
theorem VL: ∀t k,Qw VK t=some k→Tryz.prog.underlying t=some (.float k):=by
 intro t k h
 cases h
def VM:List (Nat×(Nat×Bool)):=[(222,(75,true))]
def VN:List (Nat×(Nat×List LK))→Nat→Option (Nat×List LK)
 |[],_=>none
 |(k,s)::r,t=>bif Nat.beq k t then some s else VN r t
abbrev jv:List LK:=[.k (.l),.k (.i .i64),.k (.l),.k (.l),.k (.l),.k (.i .i64),.k (.i .i64),.k (.i .i64),.k (.s),.k (.s),.k (.i .i64),.k (.i .i64),.k (.i .i64),.k (.i .i64),.k (.i .i64),.k (.i .i64),.k (.s),.k (.i .i64),.k (.l),.own 2000019 77 false]
abbrev Qx:List LK:=[.own 2000000 79 false]
def VO:List (Nat×(Nat×List LK)):=[(105,(0,jv)),(106,(0,jv)),(107,(0,jv)),(108,(0,jv)),(109,(0,jv)),(110,(0,jv)),(111,(0,jv)),(112,(0,jv)),(113,(0,jv)),(114,(0,jv)),(115,(0,jv)),(118,(2,Qx)),(171,(0,jv)),(179,(0,jv))]
def dl (n:Nat):Bool:=bE [117] n
def cx:Ctx:=⟨wm LV,kk,fun _ _=>none,gv,frs,VJ aa2,VN VO,[],0,[],[],fun _=>[],Qw VK,E5 VM,fun _=>[],fun _=>default,fun _=>default,fun _=>default,dl,[]⟩
def Y1 (g:Nat→List MV→Option MV) (par:List (Nat×Nat)) (n:Nat) (bs fl:List Nat) (fz ord:List (Nat×List Nat)) (KZ Jw G5:List (Nat×qV)) (dyn:List Nat):Ctx:=⟨wm LV,kk,g,gv,frs,VJ aa2,VN VO,par,n,bs,fl,VI fz,Qw VK,E5 VM,VI ord,Qv KZ,Qv Jw,Qv G5,dl,dyn⟩
theorem VP:B4 Tryz.prog cx:=Oj (l:=VM) (by kernel_rfl) (fun _ _ h=>h)
def jG (t:Nat):TI:=match wm LV t with|some I=>I|none=>⟨false,0,0,[],[],[],[],0,[]⟩
theorem tv9:cx.tv 9=some (jG 9):=by kernel_rfl
theorem acG:cx.tv 22=some (jG 22):=by kernel_rfl
theorem acH:cx.tv 25=some (jG 25):=by kernel_rfl
theorem ajG:cx.tv 28=some (jG 28):=by kernel_rfl
theorem afT:cx.tv 31=some (jG 31):=by kernel_rfl
theorem afU:cx.tv 57=some (jG 57):=by kernel_rfl
theorem ajH:cx.tv 75=some (jG 75):=by kernel_rfl
theorem acI:cx.tv 98=some (jG 98):=by kernel_rfl
theorem VQ:cx.tv 126=some (jG 126):=by kernel_rfl
theorem Y2:Kc Tryz.prog cx 117 75:=by
 have hE:cx.tv 75=some (jG 75):=by kernel_rfl
 refine YS (P:=Tryz.prog) (f:=117) (fi:=182) (t:=28) (ti:=3) (tb:=4) (fu:=191) (el:=75) (fn:=Tryz.f117) (fni:=Tryz.f182) (r:=(fun k=>(([0,1,2,3,4,5,7,8,9,10,6,11,12]:List Nat)[k]?).getD 0)) (ri:=(fun k=>(([0,1,2,3,4,5,6,7]:List Nat)[k]?).getD 0)) (o:=iR Tryz.f117 iS) (oi:=iR Tryz.f182 iS) ⟨Tryz.func117,by kernel_rfl,by kernel_rfl,by kernel_rfl,by kernel_rfl,?_,by kernel_rfl⟩ ⟨Tryz.func182,by kernel_rfl,by kernel_rfl,by kernel_rfl,by kernel_rfl,?_,by kernel_rfl⟩ ov hE (by kernel_rfl) (Nat.le_of_ble_eq_true (by kernel_rfl))
 ·constructor<;>exact ⟨by kernel_rfl,by kernel_rfl,by kernel_rfl⟩
 ·constructor<;>exact ⟨by kernel_rfl,by kernel_rfl,by kernel_rfl⟩
theorem Kz:vq Tryz.prog cx:=by
 intro n hn
 unfold cx dl bE at hn
 cases aa3:Nat.beq 117 n with
 |true=>
  have:=Nat.eq_of_beq_eq_true aa3
  subst this
  exact Y2
 |false=>
 simp only [aa3,cond_false] at hn
 try unfold bE at hn
 cases hn
def C8:Go.Shelf.Ren:=⟨fun|146=>194|221=>233|268=>252|138=>253|143=>254|195=>269|197=>270|218=>271|219=>272|260=>282|217=>283|225=>279|224=>278|267=>284|266=>286|314=>287|n=>n,fun|9=>9|31=>55|3=>3|4=>4|0=>0|105=>349|21=>21|5=>5|46=>226|119=>356|139=>359|138=>358|146=>327|51=>244|n=>n,fun|1=>0|3=>1|4=>2|n=>n⟩
theorem Y3:Go.Proofs.Lays.n146 Tryz.prog C8:={
 mixed:=by kernel_rfl
 f138:=Tryz.func253.trans (congrArg some (by kernel_rfl))
 f143:=Tryz.func254.trans (congrArg some (by kernel_rfl))
 f146:=Tryz.func194.trans (congrArg some (by kernel_rfl))
 f195:=Tryz.func269.trans (congrArg some (by kernel_rfl))
 f197:=Tryz.func270.trans (congrArg some (by kernel_rfl))
 f217:=Tryz.func283.trans (congrArg some (by kernel_rfl))
 f218:=Tryz.func271.trans (congrArg some (by kernel_rfl))
 f219:=Tryz.func272.trans (congrArg some (by kernel_rfl))
 f221:=Tryz.func233.trans (congrArg some (by kernel_rfl))
 f224:=Tryz.func278.trans (congrArg some (by kernel_rfl))
 f225:=Tryz.func279.trans (congrArg some (by kernel_rfl))
 f260:=Tryz.func282.trans (congrArg some (by kernel_rfl))
 f266:=Tryz.func286.trans (congrArg some (by kernel_rfl))
 f267:=Tryz.func284.trans (congrArg some (by kernel_rfl))
 f268:=Tryz.func252.trans (congrArg some (by kernel_rfl))
 f314:=Tryz.func287.trans (congrArg some (by kernel_rfl))
 t0:=Tryz.underlying0
 a0:=Tryz.isAgg0
 z0:=Tryz.sizeOf0
 v0:=Tryz.zeroValue0
 t3:=Tryz.underlying3
 a3:=Tryz.isAgg3
 z3:=Tryz.sizeOf3
 v3:=Tryz.zeroValue3
 t4:=Tryz.underlying4
 a4:=Tryz.isAgg4
 z4:=Tryz.sizeOf4
 v4:=Tryz.zeroValue4
 t5:=Tryz.underlying5
 a5:=Tryz.isAgg5
 z5:=Tryz.sizeOf5
 v5:=Tryz.zeroValue5
 t9:=Tryz.underlying9
 a9:=Tryz.isAgg9
 z9:=Tryz.sizeOf9
 v9:=Tryz.zeroValue9
 t21:=Tryz.underlying21
 a21:=Tryz.isAgg21
 z21:=Tryz.sizeOf21
 v21:=Tryz.zeroValue21
 t31:=Tryz.underlying55
 a31:=Tryz.isAgg55
 z31:=Tryz.sizeOf55
 v31:=Tryz.zeroValue55
 t46:=Tryz.underlying226
 a46:=Tryz.isAgg226
 z46:=Tryz.sizeOf226
 v46:=Tryz.zeroValue226
 t51:=Tryz.underlying244
 a51:=Tryz.isAgg244
 z51:=Tryz.sizeOf244
 v51:=Tryz.zeroValue244
 t105:=Tryz.underlying349
 a105:=Tryz.isAgg349
 z105:=Tryz.sizeOf349
 v105:=Tryz.zeroValue349
 t119:=Tryz.underlying356
 a119:=Tryz.isAgg356
 z119:=Tryz.sizeOf356
 t138:=Tryz.underlying358
 a138:=Tryz.isAgg358
 z138:=Tryz.sizeOf358
 v138:=Tryz.zeroValue358
 t139:=Tryz.underlying359
 a139:=Tryz.isAgg359
 z139:=Tryz.sizeOf359
 v139:=Tryz.zeroValue359
 t146:=Tryz.underlying327
 a146:=Tryz.isAgg327
 z146:=Tryz.sizeOf327
 v146:=Tryz.zeroValue327
 g1:=by kernel_rfl
 g3:=by kernel_rfl
 g4:=by kernel_rfl}
def C9:Go.Shelf.Ren:=⟨fun|160=>235|232=>256|231=>255|227=>257|234=>259|233=>258|236=>261|235=>260|228=>273|271=>274|151=>238|197=>270|120=>285|152=>263|260=>282|137=>276|119=>277|224=>278|225=>279|217=>283|266=>286|n=>n,fun|9=>9|4=>4|3=>3|5=>5|117=>341|116=>340|0=>0|124=>344|21=>21|105=>349|46=>226|119=>356|139=>359|138=>358|n=>n,fun|3=>1|4=>2|n=>n⟩
theorem Y4:Go.Proofs.Lays.n160 Tryz.prog C9:={
 mixed:=by kernel_rfl
 f119:=Tryz.func277.trans (congrArg some (by kernel_rfl))
 f120:=Tryz.func285.trans (congrArg some (by kernel_rfl))
 f137:=Tryz.func276.trans (congrArg some (by kernel_rfl))
 f151:=Tryz.func238.trans (congrArg some (by kernel_rfl))
 f152:=Tryz.func263.trans (congrArg some (by kernel_rfl))
 f160:=Tryz.func235.trans (congrArg some (by kernel_rfl))
 f197:=Tryz.func270.trans (congrArg some (by kernel_rfl))
 f217:=Tryz.func283.trans (congrArg some (by kernel_rfl))
 f224:=Tryz.func278.trans (congrArg some (by kernel_rfl))
 f225:=Tryz.func279.trans (congrArg some (by kernel_rfl))
 f227:=Tryz.func257.trans (congrArg some (by kernel_rfl))
 f228:=Tryz.func273.trans (congrArg some (by kernel_rfl))
 f231:=Tryz.func255.trans (congrArg some (by kernel_rfl))
 f232:=Tryz.func256.trans (congrArg some (by kernel_rfl))
 f233:=Tryz.func258.trans (congrArg some (by kernel_rfl))
 f234:=Tryz.func259.trans (congrArg some (by kernel_rfl))
 f235:=Tryz.func260.trans (congrArg some (by kernel_rfl))
 f236:=Tryz.func261.trans (congrArg some (by kernel_rfl))
 f260:=Tryz.func282.trans (congrArg some (by kernel_rfl))
 f266:=Tryz.func286.trans (congrArg some (by kernel_rfl))
 f271:=Tryz.func274.trans (congrArg some (by kernel_rfl))
 t0:=Tryz.underlying0
 a0:=Tryz.isAgg0
 z0:=Tryz.sizeOf0
 v0:=Tryz.zeroValue0
 t3:=Tryz.underlying3
 a3:=Tryz.isAgg3
 z3:=Tryz.sizeOf3
 v3:=Tryz.zeroValue3
 t4:=Tryz.underlying4
 a4:=Tryz.isAgg4
 z4:=Tryz.sizeOf4
 v4:=Tryz.zeroValue4
 t5:=Tryz.underlying5
 a5:=Tryz.isAgg5
 z5:=Tryz.sizeOf5
 v5:=Tryz.zeroValue5
 t9:=Tryz.underlying9
 a9:=Tryz.isAgg9
 z9:=Tryz.sizeOf9
 v9:=Tryz.zeroValue9
 t21:=Tryz.underlying21
 a21:=Tryz.isAgg21
 z21:=Tryz.sizeOf21
 v21:=Tryz.zeroValue21
 t46:=Tryz.underlying226
 a46:=Tryz.isAgg226
 z46:=Tryz.sizeOf226
 v46:=Tryz.zeroValue226
 t105:=Tryz.underlying349
 a105:=Tryz.isAgg349
 z105:=Tryz.sizeOf349
 v105:=Tryz.zeroValue349
 t116:=Tryz.underlying340
 a116:=Tryz.isAgg340
 z116:=Tryz.sizeOf340
 t117:=Tryz.underlying341
 a117:=Tryz.isAgg341
 z117:=Tryz.sizeOf341
 v117:=Tryz.zeroValue341
 t119:=Tryz.underlying356
 a119:=Tryz.isAgg356
 z119:=Tryz.sizeOf356
 t124:=Tryz.underlying344
 a124:=Tryz.isAgg344
 z124:=Tryz.sizeOf344
 v124:=Tryz.zeroValue344
 t138:=Tryz.underlying358
 a138:=Tryz.isAgg358
 z138:=Tryz.sizeOf358
 v138:=Tryz.zeroValue358
 t139:=Tryz.underlying359
 a139:=Tryz.isAgg359
 z139:=Tryz.sizeOf359
 v139:=Tryz.zeroValue359
 g3:=by kernel_rfl
 g4:=by kernel_rfl}
def Da:Go.Shelf.Ren:=⟨fun|151=>238|152=>263|137=>276|119=>277|224=>278|225=>279|217=>283|266=>286|n=>n,fun|9=>9|21=>21|4=>4|3=>3|5=>5|0=>0|46=>226|n=>n,fun|n=>n⟩
theorem Y5:Go.Proofs.Lays.n151 Tryz.prog Da:={
 mixed:=by kernel_rfl
 f119:=Tryz.func277.trans (congrArg some (by kernel_rfl))
 f137:=Tryz.func276.trans (congrArg some (by kernel_rfl))
 f151:=Tryz.func238.trans (congrArg some (by kernel_rfl))
 f152:=Tryz.func263.trans (congrArg some (by kernel_rfl))
 f217:=Tryz.func283.trans (congrArg some (by kernel_rfl))
 f224:=Tryz.func278.trans (congrArg some (by kernel_rfl))
 f225:=Tryz.func279.trans (congrArg some (by kernel_rfl))
 f266:=Tryz.func286.trans (congrArg some (by kernel_rfl))
 t0:=Tryz.underlying0
 a0:=Tryz.isAgg0
 z0:=Tryz.sizeOf0
 v0:=Tryz.zeroValue0
 t3:=Tryz.underlying3
 a3:=Tryz.isAgg3
 z3:=Tryz.sizeOf3
 v3:=Tryz.zeroValue3
 t4:=Tryz.underlying4
 a4:=Tryz.isAgg4
 z4:=Tryz.sizeOf4
 v4:=Tryz.zeroValue4
 t5:=Tryz.underlying5
 a5:=Tryz.isAgg5
 z5:=Tryz.sizeOf5
 v5:=Tryz.zeroValue5
 t9:=Tryz.underlying9
 a9:=Tryz.isAgg9
 z9:=Tryz.sizeOf9
 v9:=Tryz.zeroValue9
 t21:=Tryz.underlying21
 a21:=Tryz.isAgg21
 z21:=Tryz.sizeOf21
 v21:=Tryz.zeroValue21
 t46:=Tryz.underlying226
 a46:=Tryz.isAgg226
 z46:=Tryz.sizeOf226
 v46:=Tryz.zeroValue226}
theorem Y6 {g:Nat→List MV→Option MV} (h:ap Tryz.prog cx g):ap Tryz.prog cx (bl 194 xx g):=h.DC (fun _=>rfl) (fun ms r hr=>Vu (P:=Tryz.prog) (ρ:=C8) (c:=cx) Y3 (by kernel_rfl) (by kernel_rfl) (by kernel_rfl) tv9 (by kernel_rfl) hr)
theorem Y7 {g:Nat→List MV→Option MV} (h:ap Tryz.prog cx g):ap Tryz.prog cx (bl 235 Fm g):=h.DC (fun _=>rfl) (fun ms r hr=>YM (P:=Tryz.prog) (ρ:=C9) (c:=cx) Y4 (by kernel_rfl) (by kernel_rfl) hr)
theorem Y8 {g:Nat→List MV→Option MV} (h:ap Tryz.prog cx g):ap Tryz.prog cx (bl 238 rh g):=h.DC (fun _=>rfl) (fun ms r hr=>OD (P:=Tryz.prog) (ρ:=Da) (c:=cx) Y5 (by kernel_rfl) hr)
theorem acJ {g:Nat→List MV→Option MV} (h:ap Tryz.prog cx g):ap Tryz.prog cx (bl 61 (fZ 6 72) g):=h.DC (fun _=>rfl) (fun ms r hr=>by
 obtain ⟨xs,rfl,rfl,h1,h2⟩:=sP hr
 exact AX (P:=Tryz.prog) (c:=cx) (f:=61) (fn:=Tryz.f61) (t:=31) (I:=jG 31) (E:=jG 57) (i0:=0) (i1:=1) (i2:=2) (i3:=3) (oA:=iR Tryz.f61 iS 0) (oB:=iR Tryz.f61 iS 1) (oC:=iR Tryz.f61 iS 2) (oD:=iR Tryz.f61 iS 3) (oE:=iR Tryz.f61 iS 4) (oF:=iR Tryz.f61 iS 5) (oG:=iR Tryz.f61 iS 6) (oH:=iR Tryz.f61 iS 7) ov afT (by kernel_rfl) afU (Nat.le_of_ble_eq_true (by kernel_rfl)) (by kernel_rfl) (by kernel_rfl) Tryz.func61 (by kernel_rfl) (by kernel_rfl) (by kernel_rfl) (by kernel_rfl)
  ⟨by kernel_rfl,by kernel_rfl,by kernel_rfl⟩ ⟨by kernel_rfl,by kernel_rfl,by kernel_rfl⟩ ⟨by kernel_rfl,by kernel_rfl,by kernel_rfl⟩ ⟨by kernel_rfl,by kernel_rfl,by kernel_rfl⟩ ⟨by kernel_rfl,by kernel_rfl,by kernel_rfl⟩ ⟨by kernel_rfl,by kernel_rfl,by kernel_rfl⟩ ⟨by kernel_rfl,by kernel_rfl,by kernel_rfl⟩ ⟨by kernel_rfl,by kernel_rfl,by kernel_rfl⟩ (by rw [show (jG 57).size=6 by kernel_rfl];exact h1) (by rw [show (jG 57).bytes=72 by kernel_rfl];exact h2))
theorem afV:Fh Tryz.prog 63 31 3 4 57 122 Tryz.f63 (fun k=>k) (iR Tryz.f63 iS) (Kj (iR Tryz.f63 iS)):=by
 refine ⟨Tryz.func63,by kernel_rfl,by kernel_rfl,by kernel_rfl,by kernel_rfl,?_,xC,by kernel_rfl⟩
 constructor<;>first|exact ⟨by kernel_rfl,by kernel_rfl,by kernel_rfl⟩|kernel_rfl
theorem ajI: ∀args w,(callFunc 122 args).run Tryz.prog w=((Extern.SlicesOverlaps.overlaps #[31,31] #[4] args).run Tryz.prog w).andThen fun v w'=> .ok (.value v) w':=fun args w=>run_callFunc_extern Tryz.func122 (by kernel_rfl) (by kernel_rfl) (by kernel_rfl) (e:=Extern.SlicesOverlaps.overlaps #[31,31] #[4]) (by kernel_rfl) args w
theorem acK {g:Nat→List MV→Option MV} (h:ap Tryz.prog cx g):ap Tryz.prog cx (bl 63 (jD 72) g):=h.DC (fun _=>rfl) (fun ms r hr=>by
 obtain ⟨xs,ys,i,rfl,rfl,h1,h2,h3⟩:=vt hr
 exact Ce (P:=Tryz.prog) (c:=cx) (I:=jG 31) (E:=jG 57) afV ov afT (by kernel_rfl) afU (Nat.le_of_ble_eq_true (by kernel_rfl)) (by kernel_rfl) (by kernel_rfl) (by kernel_rfl) (by kernel_rfl) ajI h1 h2 (by rw [show (jG 57).bytes=72 by kernel_rfl];exact h3))
theorem Y9 {g:Nat→List MV→Option MV} (h:ap Tryz.prog cx g):ap Tryz.prog cx (bl 116 (fZ 3 32) g):=h.DC (fun _=>rfl) (fun ms r hr=>by
 obtain ⟨xs,rfl,rfl,h1,h2⟩:=sP hr
 exact AX (P:=Tryz.prog) (c:=cx) (f:=116) (fn:=Tryz.f116) (t:=28) (I:=jG 28) (E:=jG 75) (i0:=0) (i1:=1) (i2:=2) (i3:=3) (oA:=iR Tryz.f116 iS 0) (oB:=iR Tryz.f116 iS 1) (oC:=iR Tryz.f116 iS 2) (oD:=iR Tryz.f116 iS 3) (oE:=iR Tryz.f116 iS 4) (oF:=iR Tryz.f116 iS 5) (oG:=iR Tryz.f116 iS 6) (oH:=iR Tryz.f116 iS 7) ov ajG (by kernel_rfl) ajH (Nat.le_of_ble_eq_true (by kernel_rfl)) (by kernel_rfl) (by kernel_rfl) Tryz.func116 (by kernel_rfl) (by kernel_rfl) (by kernel_rfl) (by kernel_rfl)
  ⟨by kernel_rfl,by kernel_rfl,by kernel_rfl⟩ ⟨by kernel_rfl,by kernel_rfl,by kernel_rfl⟩ ⟨by kernel_rfl,by kernel_rfl,by kernel_rfl⟩ ⟨by kernel_rfl,by kernel_rfl,by kernel_rfl⟩ ⟨by kernel_rfl,by kernel_rfl,by kernel_rfl⟩ ⟨by kernel_rfl,by kernel_rfl,by kernel_rfl⟩ ⟨by kernel_rfl,by kernel_rfl,by kernel_rfl⟩ ⟨by kernel_rfl,by kernel_rfl,by kernel_rfl⟩ (by rw [show (jG 75).size=3 by kernel_rfl];exact h1) (by rw [show (jG 75).bytes=32 by kernel_rfl];exact h2))
theorem acL:Fh Tryz.prog 218 22 3 4 98 246 Tryz.f218 (fun k=>k) (iR Tryz.f218 iS) (Kj (iR Tryz.f218 iS)):=by
 refine ⟨Tryz.func218,by kernel_rfl,by kernel_rfl,by kernel_rfl,by kernel_rfl,?_,xC,by kernel_rfl⟩
 constructor<;>first|exact ⟨by kernel_rfl,by kernel_rfl,by kernel_rfl⟩|kernel_rfl
theorem afW: ∀args w,(callFunc 246 args).run Tryz.prog w=((Extern.SlicesOverlaps.overlaps #[22,22] #[4] args).run Tryz.prog w).andThen fun v w'=> .ok (.value v) w':=fun args w=>run_callFunc_extern Tryz.func246 (by kernel_rfl) (by kernel_rfl) (by kernel_rfl) (e:=Extern.SlicesOverlaps.overlaps #[22,22] #[4]) (by kernel_rfl) args w
theorem Za {g:Nat→List MV→Option MV} (h:ap Tryz.prog cx g):ap Tryz.prog cx (bl 218 (jD 48) g):=h.DC (fun _=>rfl) (fun ms r hr=>by
 obtain ⟨xs,ys,i,rfl,rfl,h1,h2,h3⟩:=vt hr
 exact Ce (P:=Tryz.prog) (c:=cx) (I:=jG 22) (E:=jG 98) acL ov acG (by kernel_rfl) acI (Nat.le_of_ble_eq_true (by kernel_rfl)) (by kernel_rfl) (by kernel_rfl) (by kernel_rfl) (by kernel_rfl) afW h1 h2 (by rw [show (jG 98).bytes=48 by kernel_rfl];exact h3))
theorem Zd {g:Nat→List MV→Option MV} (h:ap Tryz.prog cx g):ap Tryz.prog cx (bl 219 (fZ 4 48) g):=h.DC (fun _=>rfl) (fun ms r hr=>by
 obtain ⟨xs,rfl,rfl,h1,h2⟩:=sP hr
 exact AX (P:=Tryz.prog) (c:=cx) (f:=219) (fn:=Tryz.f219) (t:=22) (I:=jG 22) (E:=jG 98) (i0:=0) (i1:=1) (i2:=2) (i3:=3) (oA:=iR Tryz.f219 iS 0) (oB:=iR Tryz.f219 iS 1) (oC:=iR Tryz.f219 iS 2) (oD:=iR Tryz.f219 iS 3) (oE:=iR Tryz.f219 iS 4) (oF:=iR Tryz.f219 iS 5) (oG:=iR Tryz.f219 iS 6) (oH:=iR Tryz.f219 iS 7) ov acG (by kernel_rfl) acI (Nat.le_of_ble_eq_true (by kernel_rfl)) (by kernel_rfl) (by kernel_rfl) Tryz.func219 (by kernel_rfl) (by kernel_rfl) (by kernel_rfl) (by kernel_rfl)
  ⟨by kernel_rfl,by kernel_rfl,by kernel_rfl⟩ ⟨by kernel_rfl,by kernel_rfl,by kernel_rfl⟩ ⟨by kernel_rfl,by kernel_rfl,by kernel_rfl⟩ ⟨by kernel_rfl,by kernel_rfl,by kernel_rfl⟩ ⟨by kernel_rfl,by kernel_rfl,by kernel_rfl⟩ ⟨by kernel_rfl,by kernel_rfl,by kernel_rfl⟩ ⟨by kernel_rfl,by kernel_rfl,by kernel_rfl⟩ ⟨by kernel_rfl,by kernel_rfl,by kernel_rfl⟩ (by rw [show (jG 98).size=4 by kernel_rfl];exact h1) (by rw [show (jG 98).bytes=48 by kernel_rfl];exact h2))
theorem acM:Mc Tryz.prog 223 22 3 98 Tryz.f223 (fun k=>k) (iR Tryz.f223 iS):=by
 refine ⟨Tryz.func223,by kernel_rfl,by kernel_rfl,by kernel_rfl,by kernel_rfl,?_,xC,by kernel_rfl⟩
 constructor<;>first|exact ⟨by kernel_rfl,by kernel_rfl,by kernel_rfl⟩|kernel_rfl
theorem Ze {g:Nat→List MV→Option MV} (h:ap Tryz.prog cx g):ap Tryz.prog cx (bl 223 oT g):=h.DC (fun _=>rfl) (fun ms r hr=>by
 obtain ⟨xs,i,j,rfl,rfl,h1,h2⟩:=A4 hr
 exact IE (P:=Tryz.prog) (c:=cx) (I:=jG 22) (E:=jG 98) acM ov acG (by kernel_rfl) acI (by kernel_rfl) (by kernel_rfl) (by kernel_rfl) h1 h2)
theorem acN:Fh Tryz.prog 225 25 3 4 126 248 Tryz.f225 (fun k=>k) (iR Tryz.f225 iS) (Kj (iR Tryz.f225 iS)):=by
 refine ⟨Tryz.func225,by kernel_rfl,by kernel_rfl,by kernel_rfl,by kernel_rfl,?_,xC,by kernel_rfl⟩
 constructor<;>first|exact ⟨by kernel_rfl,by kernel_rfl,by kernel_rfl⟩|kernel_rfl
theorem afX: ∀args w,(callFunc 248 args).run Tryz.prog w=((Extern.SlicesOverlaps.overlaps #[25,25] #[4] args).run Tryz.prog w).andThen fun v w'=> .ok (.value v) w':=fun args w=>run_callFunc_extern Tryz.func248 (by kernel_rfl) (by kernel_rfl) (by kernel_rfl) (e:=Extern.SlicesOverlaps.overlaps #[25,25] #[4]) (by kernel_rfl) args w
theorem Zf {g:Nat→List MV→Option MV} (h:ap Tryz.prog cx g):ap Tryz.prog cx (bl 225 (jD 24) g):=h.DC (fun _=>rfl) (fun ms r hr=>by
 obtain ⟨xs,ys,i,rfl,rfl,h1,h2,h3⟩:=vt hr
 exact Ce (P:=Tryz.prog) (c:=cx) (I:=jG 25) (E:=jG 126) acN ov acH (by kernel_rfl) VQ (Nat.le_of_ble_eq_true (by kernel_rfl)) (by kernel_rfl) (by kernel_rfl) (by kernel_rfl) (by kernel_rfl) afX h1 h2 (by rw [show (jG 126).bytes=24 by kernel_rfl];exact h3))
theorem Zg {g:Nat→List MV→Option MV} (h:ap Tryz.prog cx g):ap Tryz.prog cx (bl 226 (fZ 3 24) g):=h.DC (fun _=>rfl) (fun ms r hr=>by
 obtain ⟨xs,rfl,rfl,h1,h2⟩:=sP hr
 exact AX (P:=Tryz.prog) (c:=cx) (f:=226) (fn:=Tryz.f226) (t:=25) (I:=jG 25) (E:=jG 126) (i0:=0) (i1:=1) (i2:=2) (i3:=3) (oA:=iR Tryz.f226 iS 0) (oB:=iR Tryz.f226 iS 1) (oC:=iR Tryz.f226 iS 2) (oD:=iR Tryz.f226 iS 3) (oE:=iR Tryz.f226 iS 4) (oF:=iR Tryz.f226 iS 5) (oG:=iR Tryz.f226 iS 6) (oH:=iR Tryz.f226 iS 7) ov acH (by kernel_rfl) VQ (Nat.le_of_ble_eq_true (by kernel_rfl)) (by kernel_rfl) (by kernel_rfl) Tryz.func226 (by kernel_rfl) (by kernel_rfl) (by kernel_rfl) (by kernel_rfl)
  ⟨by kernel_rfl,by kernel_rfl,by kernel_rfl⟩ ⟨by kernel_rfl,by kernel_rfl,by kernel_rfl⟩ ⟨by kernel_rfl,by kernel_rfl,by kernel_rfl⟩ ⟨by kernel_rfl,by kernel_rfl,by kernel_rfl⟩ ⟨by kernel_rfl,by kernel_rfl,by kernel_rfl⟩ ⟨by kernel_rfl,by kernel_rfl,by kernel_rfl⟩ ⟨by kernel_rfl,by kernel_rfl,by kernel_rfl⟩ ⟨by kernel_rfl,by kernel_rfl,by kernel_rfl⟩ (by rw [show (jG 126).size=3 by kernel_rfl];exact h1) (by rw [show (jG 126).bytes=24 by kernel_rfl];exact h2))
theorem acO:Mc Tryz.prog 227 25 3 126 Tryz.f227 (fun k=>k) (iR Tryz.f227 iS):=by
 refine ⟨Tryz.func227,by kernel_rfl,by kernel_rfl,by kernel_rfl,by kernel_rfl,?_,xC,by kernel_rfl⟩
 constructor<;>first|exact ⟨by kernel_rfl,by kernel_rfl,by kernel_rfl⟩|kernel_rfl
theorem Zh {g:Nat→List MV→Option MV} (h:ap Tryz.prog cx g):ap Tryz.prog cx (bl 227 oT g):=h.DC (fun _=>rfl) (fun ms r hr=>by
 obtain ⟨xs,i,j,rfl,rfl,h1,h2⟩:=A4 hr
 exact IE (P:=Tryz.prog) (c:=cx) (I:=jG 25) (E:=jG 126) acO ov acH (by kernel_rfl) VQ (by kernel_rfl) (by kernel_rfl) (by kernel_rfl) h1 h2)
noncomputable def H61:Nat→List MV→Option MV:=bl 61 (fZ 6 72) (fun _ _=>none)
theorem VR:ap Tryz.prog cx H61:=acJ (ap.none _ _)
noncomputable def H63:Nat→List MV→Option MV:=bl 63 (jD 72) H61
theorem VS:ap Tryz.prog cx H63:=acK VR
noncomputable def afY:Nat→List MV→Option MV:=bl 116 (fZ 3 32) H63
theorem R6:ap Tryz.prog cx afY:=Y9 VS
noncomputable def afZ:Nat→List MV→Option MV:=bl 194 xx afY
theorem R7:ap Tryz.prog cx afZ:=Y6 R6
noncomputable def af0:Nat→List MV→Option MV:=bl 218 (jD 48) afZ
theorem R8:ap Tryz.prog cx af0:=Za R7
noncomputable def af1:Nat→List MV→Option MV:=bl 219 (fZ 4 48) af0
theorem R9:ap Tryz.prog cx af1:=Zd R8
noncomputable def af2:Nat→List MV→Option MV:=bl 223 oT af1
theorem Sa:ap Tryz.prog cx af2:=Ze R9
noncomputable def af3:Nat→List MV→Option MV:=bl 225 (jD 24) af2
theorem Sb:ap Tryz.prog cx af3:=Zf Sa
noncomputable def af4:Nat→List MV→Option MV:=bl 226 (fZ 3 24) af3
theorem Sc:ap Tryz.prog cx af4:=Zg Sb
noncomputable def af5:Nat→List MV→Option MV:=bl 227 oT af4
theorem Sd:ap Tryz.prog cx af5:=Zh Sc
noncomputable def af6:Nat→List MV→Option MV:=bl 235 Fm af5
theorem Se:ap Tryz.prog cx af6:=Y7 Sd
noncomputable def af7:Nat→List MV→Option MV:=bl 238 rh af6
theorem Sf:ap Tryz.prog cx af7:=Y8 Se
theorem At {g:Nat→List MV→Option MV} (s:ap Tryz.prog cx g) (b8:List (List Kd)) (par:List (Nat×Nat)) (tn:Nat) (bs fl:List Nat) (fz ord:List (Nat×List Nat)) (KZ Jw G5:List (Nat×qV)) (dyn:List Nat) {n:Nat} {fn:Func} {F:List MV→Option MV} (hf:Tryz.prog.funcs[n]? =some fn)
 (hh:L8 (Y1 g par tn bs fl fz ord KZ Jw G5 dyn) n fn b8=true) (hF: ∀{ms r},F ms=some r→HX (Y1 g par tn bs fl fz ord KZ Jw G5 dyn) b8 none fn ms=some r):ap Tryz.prog cx (bl n F g):=
 s.fn (c':=Y1 g par tn bs fl fz ord KZ Jw G5 dyn) ⟨rfl,rfl,rfl,rfl,rfl,rfl,rfl,rfl,rfl⟩ rfl ov VD VL VP xC Kz hf hh (fun _=>rfl) hF
theorem lS {g:Nat→List MV→Option MV} (s:ap Tryz.prog cx g) (b8:List (List Kd)) (tn:Nat) (KZ Jw G5:List (Nat×qV)) {n:Nat} {fn:Func} {F:List MV→Option MV} (hf:Tryz.prog.funcs[n]? =some fn)
 (hh:L8 (Y1 g [] tn [] [] [] [] KZ Jw G5 []) n fn b8=true) (hF: ∀{ms r},F ms=some r→HX (Y1 g [] tn [] [] [] [] KZ Jw G5 []) b8 none fn ms=some r):ap Tryz.prog cx (bl n F g):=At s b8 [] tn [] [] [] [] KZ Jw G5 [] hf hh hF
theorem Ns {g:Nat→List MV→Option MV} (s:ap Tryz.prog cx g) (pos:Nat) (ks:List LK) (b8:List (List Kd)) (par:List (Nat×Nat)) (tn:Nat) (bs fl:List Nat) (fz ord:List (Nat×List Nat)) (KZ Jw G5:List (Nat×qV)) (dyn:List Nat) {n:Nat} {fn:Func} {F:List MV→Option MV} (hf:Tryz.prog.funcs[n]? =some fn) (hs:cx.sig n=some (pos,ks))
 (hh:Qi (Y1 g par tn bs fl fz ord KZ Jw G5 dyn) n fn b8=true) (hF: ∀{ms r},F ms=some r→HW (Y1 g par tn bs fl fz ord KZ Jw G5 dyn) b8 pos ks fn ms=some r):ap Tryz.prog cx (bl n F g):=
 s.Ns ov VD VL VP xC Kz hf hs (fun _=>rfl) fun h=>⟨Y1 g par tn bs fl fz ord KZ Jw G5 dyn,⟨rfl,rfl,rfl,rfl,rfl,rfl,rfl,rfl,rfl⟩,rfl,hh,hF h⟩
abbrev Sg (d:List MV→Option MV):List MV→Option MV:=fun ms=>match ms with|[.cell (.func off a0)]=>(match Nat.beq off 0 with|true=>d a0|false=>none)|_=>none
theorem rG {d:List MV→Option MV} {B:List MV→Option MV} (h: ∀a0,B [.cell (.func 0 a0)]=d a0) {ms:List MV} {r:MV} (e:Sg d ms=some r):B ms=some r:=by
 unfold Sg at e
 split at e
 ·rename_i off a0
  cases ho:Nat.beq off 0 with
  |true=>
   have:=Nat.eq_of_beq_eq_true ho
   subst this
   exact (h _).trans e
  |false=>rw [ho] at e;cases e
 ·cases e
abbrev cl2 (d:List MV→MV→Option MV):List MV→Option MV:=fun ms=>match ms with|[.cell (.func off a0),a1]=>(match Nat.beq off 0 with|true=>d a0 a1|false=>none)|_=>none
theorem VT {d:List MV→MV→Option MV} {B:List MV→Option MV} (h: ∀a0 a1,B [.cell (.func 0 a0),a1]=d a0 a1) {ms:List MV} {r:MV} (e:cl2 d ms=some r):B ms=some r:=by
 unfold cl2 at e
 split at e
 ·rename_i off a0 a1
  cases ho:Nat.beq off 0 with
  |true=>
   have:=Nat.eq_of_beq_eq_true ho
   subst this
   exact (h _ _).trans e
  |false=>rw [ho] at e;cases e
 ·cases e
noncomputable def D8 (a:MV):Option MV:=
 gA a fun cs=>
 gf .i64 cs fun dZ dB iN ew Seen=>
 bd (
 bG dZ fun len=>
 a7 (decide ((40:Int)<(len:Int))) (
 some [.b true]) (
 bG ew fun eN=>
 a7 (decide ((40:Int)<(eN:Int))) (
 some [.b true]) (
 bG iN fun hU=>
 a7 (decide ((60:Int)<(hU:Int))) (
 some [.b true]) (
 bG Seen fun tC=>
 a7 (decide ((60:Int)<(tC:Int))) (
 some [.b true]) (
 some [.b (decide ((10000000000:Int)<dB))]))))) fun vs=>
 gC vs fun m5 nE=>
 gB m5 fun x=>
 gN nE<|
 a7 x (
 some (.b false)) (
 bd (Loop (fun tD=>
 gC tD fun m6 pX=>
 gI .i64 m6 fun x1=>
 gN pX<|
 bG dZ fun Ck=>
 a7 (decide (x1<(Ck:Int))) (
 bd (
 idx dZ x1 fun y=>
 gA y fun fT=>
 j6 .i64 .i64 fT fun Path Value Version bJ=>
 a7 (decide ((200:Int)<(Path.length:Int))) (
 some [.b true]) (
 idx dZ x1 fun y1=>
 gA y1 fun qK=>
 j6 .i64 .i64 qK fun gD dC bV vB=>
 some [.b (decide ((1100:Int)<(dC.length:Int)))])) fun kc=>
 gC kc fun m15 af8=>
 gB m15 fun x2=>
 gN af8<|
 a7 x2 (
 some (.inr (1,[.b false]))) (
 some (.inl [.i .i64 (IntKind.wrap .i64 (x1+1))]))) (
 some (.inr (2,[])))) [.i .i64 0]) fun p=>
 a7 (Nat.beq p.1 2) (
 gN p.2<|
 bd (Loop (fun VU=>
 gC VU fun m16 Fv=>
 gI .i64 m16 fun x3=>
 gN Fv<|
 bG ew fun VV=>
 a7 (decide (x3<(VV:Int))) (
 idx ew x3 fun y2=>
 gA y2 fun oh=>
 zb .i64 oh fun Mo Client Kids=>
 a7 (decide ((200:Int)<(Mo.length:Int))) (
 some (.inr (1,[.b false]))) (
 some (.inl [.i .i64 (IntKind.wrap .i64 (x3+1))]))) (
 some (.inr (4,[])))) [.i .i64 0]) fun p3=>
 a7 (Nat.beq p3.1 4) (
 gN p3.2<|
 bd (Loop (fun pD=>
 gC pD fun Ba rH=>
 gI .i64 Ba fun x4=>
 gN rH<|
 bG Seen fun VW=>
 a7 (decide (x4<(VW:Int))) (
 bd (
 idx Seen x4 fun y3=>
 gA y3 fun VX=>
 cF .i64 .i64 .i64 .i64 VX fun cq Seq E Cl uu Names=>
 a7 (decide ((1100:Int)<(Cl.length:Int))) (
 some [.b true]) (
 idx Seen x4 fun y4=>
 gA y4 fun cs5=>
 cF .i64 .i64 .i64 .i64 cs5 fun Bb nW E1 OO Mp lT=>
 bG lT fun acQ=>
 some [.b (decide ((40:Int)<(acQ:Int)))])) fun qu=>
 gC qu fun m33 Fw=>
 gB m33 fun x5=>
 gN Fw<|
 a7 x5 (
 some (.inr (1,[.b false]))) (
 bd (Loop (fun Fx=>
 gC Fx fun m34 Bc=>
 gI .i64 m34 fun x6=>
 gN Bc<|
 idx Seen x4 fun y5=>
 gA y5 fun cs6=>
 cF .i64 .i64 .i64 .i64 cs6 fun Qy VY E2 VZ Mq KA=>
 bG KA fun acR=>
 a7 (decide (x6<(acR:Int))) (
 idx Seen x4 fun y6=>
 gA y6 fun cs7=>
 cF .i64 .i64 .i64 .i64 cs7 fun Qz ajM E3 V0 Mr OP=>
 idx OP x6 fun y7=>
 gS y7 fun x7=>
 a7 (decide ((200:Int)<(x7.length:Int))) (
 some (.inr (1,[.b false]))) (
 some (.inl [.i .i64 (IntKind.wrap .i64 (x6+1))]))) (
 some (.inr (8,[])))) [.i .i64 0]) fun p7=>
 a7 (Nat.beq p7.1 8) (
 gN p7.2<|
 some (.inl [.i .i64 (IntKind.wrap .i64 (x4+1))])) (
 cU (Nat.beq p7.1 1)<|
 gC p7.2 fun m47 agb=>
 gB m47 fun x8=>
 gN agb<|
 some (.inr (1,[.b x8]))))) (
 some (.inr (6,[])))) [.i .i64 0]) fun p6=>
 a7 (Nat.beq p6.1 6) (
 gN p6.2<|
 some (.b true)) (
 cU (Nat.beq p6.1 1)<|
 gC p6.2 fun m48 agc=>
 gB m48 fun x9=>
 gN agc<|
 some (.b x9))) (
 cU (Nat.beq p3.1 1)<|
 gC p3.2 fun m49 agd=>
 gB m49 fun za=>
 gN agd<|
 some (.b za))) (
 cU (Nat.beq p.1 1)<|
 gC p.2 fun m50 age=>
 gB m50 fun BN=>
 gN age<|
 some (.b BN)))
noncomputable def QA:Nat→List MV→Option MV:=bl 13 (nv D8) af7
theorem Ms:ap Tryz.prog cx QA:=lS Sf [] 130 [(16,⟨[1,5],[],[],[(0,[(107,.sc (.k .b))])],[]⟩),(6,⟨[1,3],[],[],[(0,[(65,.sc (.k .b))])],[]⟩),(1,⟨[1],[],[],[(0,[(37,.sc (.k .b))])],[]⟩)] [] [(19,⟨[1,5],[],[(6,.sc (.k (.i .i64)))],[(1,[(2,.sc (.k .b))]),(8,[])],[]⟩),(14,⟨[1],[],[(5,.sc (.k (.i .i64)))],[(1,[(2,.sc (.k .b))]),(6,[])],[]⟩),(9,⟨[1],[],[(4,.sc (.k (.i .i64)))],[(1,[(2,.sc (.k .b))]),(4,[])],[]⟩),(4,⟨[1],[],[(3,.sc (.k (.i .i64)))],[(1,[(2,.sc (.k .b))]),(2,[])],[]⟩)] Tryz.func13 (by kernel_rfl) (dA (fun _=>by kernel_rfl))
noncomputable def uv (lA:MV):Option MV:=
 gL lA fun Bd=>
 bd (Loop (fun jh=>
 gC jh fun m gh=>
 gI .i64 m fun i=>
 gN gh<|
 bG Bd fun len=>
 a7 (decide (i<(len:Int))) (
 bd (
 a7 (decide (i=30)) (
 some [.b true]) (
 idx Bd i fun y=>
 gA y fun cs=>
 jg .i64 .i64 .i64 .i64 .i64 .i64 cs fun Client Seq Kind Path Value Version Session Span=>
 a7 (decide ((200:Int)<(Path.length:Int))) (
 some [.b true]) (
 idx Bd i fun y1=>
 gA y1 fun fT=>
 jg .i64 .i64 .i64 .i64 .i64 .i64 fT fun cq nW V1 gD dC bV Fy zE=>
 some [.b (decide ((1100:Int)<(dC.length:Int)))]))) fun vs=>
 gC vs fun m17 Fv=>
 gB m17 fun x=>
 gN Fv<|
 a7 x (
 some (.inr (1,[.b false]))) (
 some (.inl [.i .i64 (IntKind.wrap .i64 (i+1))]))) (
 some (.inr (2,[])))) [.i .i64 0]) fun p=>
 a7 (Nat.beq p.1 2) (
 gN p.2<|
 some (.b true)) (
 cU (Nat.beq p.1 1)<|
 gC p.2 fun YZ Fz=>
 gB YZ fun x1=>
 gN Fz<|
 some (.b x1))
noncomputable def IL:Nat→List MV→Option MV:=bl 14 (nv uv) QA
theorem Ho:ap Tryz.prog cx IL:=lS Ms [] 30 [(4,⟨[0,3],[],[],[(0,[(29,.sc (.k .b))])],[]⟩)] [] [(2,⟨[0],[],[(3,.sc (.k (.i .i64)))],[(1,[(2,.sc (.k .b))]),(2,[])],[]⟩)] Tryz.func14 (by kernel_rfl) (dA (fun _=>by kernel_rfl))
noncomputable def Be (p:MV):Option MV:=
 gS p fun p1=>
 bd (
 a7 (decide ((p1.length:Int)=0)) (
 some [.b true]) (
 cU (decide ((0:Int)≤0∧(0:Int)<(p1.length:Int)))<|
 some [.b (!decide (((p1.getD (Int.toNat 0) 0).toNat:Int)=47))])) fun vs=>
 gC vs fun m jh=>
 gB m fun x=>
 gN jh<|
 a7 x (
 some (.cN [.list ([]:List MV),.b false])) (
 a7 (decide (p1=([47]:List UInt8))) (
 some (.cN [.list ([]:List MV),.b true])) (
 bd (Loop (fun gh=>
 gC gh fun m1 jH=>
 gL m1 fun out=>
 gC jH fun m2 pY=>
 gS m2 fun name=>
 gC pY fun m3 mQ=>
 gI .i64 m3 fun i=>
 gN mQ<|
 a7 (decide (i<(p1.length:Int))) (
 cU (decide ((0:Int)≤i∧i<(p1.length:Int)))<|
 bd (
 a7 (decide (((p1.getD (Int.toNat i) 0).toNat:Int)=47)) (
 bG out fun len=>
 bG ([.s name]:List MV) fun eN=>
 cU (decide ((len+eN) *16≤2^46))<|
 some (0,[.list (out++([.s name]:List MV)),.s ([]:List UInt8)])) (
 cU (decide ((0:Int)≤i∧i<(p1.length:Int)))<|
 JC ([.i .u8 ((p1.getD (Int.toNat i) 0).toNat:Int)]:List MV) fun bs=>
 cU (decide (name.length+bs.length≤2^46))<|
 some (0,[.list out,.s (name++bs)]))) fun p3=>
 cU (Nat.beq p3.1 0)<|
 gC p3.2 fun m4 nE=>
 gL m4 fun z8=>
 gC nE fun m5 tD=>
 gS m5 fun agf=>
 gN tD<|
 some (.inl [.list z8,.s agf,.i .i64 (IntKind.wrap .i64 (i+1))])) (
 some (.inr (2,[.list out,.s name])))) [.list ([]:List MV),.s ([]:List UInt8),.i .i64 1]) fun p2=>
 cU (Nat.beq p2.1 2)<|
 gC p2.2 fun m6 pX=>
 gL m6 fun Zj=>
 gC pX fun m7 ox=>
 gS m7 fun aa4=>
 gN ox<|
 bG Zj fun hU=>
 bG ([.s aa4]:List MV) fun tC=>
 cU (decide ((hU+tC) *16≤2^46))<|
 some (.cN [.list (Zj++([.s aa4]:List MV)),.b true])))
noncomputable def QB:Nat→List MV→Option MV:=bl 166 (nv Be) IL
theorem Mt:ap Tryz.prog cx QB:=At Ho [] [] 46 [32,43] [] [] [] [(2,⟨[0,4],[7],[],[(0,[(15,.sc (.k .b))])],[7,32,38,43]⟩)] [(11,⟨[0,6],[],[],[(0,[(4,.sc (.own 7 9 true)),(5,.sc (.k .s))])],[7,32,38,43]⟩)] [(8,⟨[0],[],[(4,.sc (.own 7 9 true)),(5,.sc (.k .s)),(6,.sc (.k (.i .i64)))],[(2,[(4,.sc (.own 7 9 true)),(5,.sc (.k .s))])],[7,32,38,43]⟩)] [] Tryz.func166 (by kernel_rfl) (dA (fun _=>by kernel_rfl))
noncomputable def vC (sA:MV):Option MV:=
 gS sA fun lY=>
 bd (Loop (fun jh=>
 gC jh fun m gh=>
 gI .i64 m fun i=>
 gN gh<|
 a7 (decide (i<(lY.length:Int))) (
 cU (decide ((0:Int)≤i∧i<(lY.length:Int)))<|
 bd (
 a7 (decide ((97:Int)≤((lY.getD (Int.toNat i) 0).toNat:Int))) (
 a7 (decide (((lY.getD (Int.toNat i) 0).toNat:Int)≤122)) (
 some [.b true]) (
 a7 (decide ((48:Int)≤((lY.getD (Int.toNat i) 0).toNat:Int))) (
 a7 (decide (((lY.getD (Int.toNat i) 0).toNat:Int)≤57)) (
 some [.b true]) (
 a7 (decide (((lY.getD (Int.toNat i) 0).toNat:Int)=45)) (
 some [.b true]) (
 some [.b (decide (((lY.getD (Int.toNat i) 0).toNat:Int)=95))]))) (
 a7 (decide (((lY.getD (Int.toNat i) 0).toNat:Int)=45)) (
 some [.b true]) (
 some [.b (decide (((lY.getD (Int.toNat i) 0).toNat:Int)=95))])))) (
 a7 (decide ((48:Int)≤((lY.getD (Int.toNat i) 0).toNat:Int))) (
 a7 (decide (((lY.getD (Int.toNat i) 0).toNat:Int)≤57)) (
 some [.b true]) (
 a7 (decide (((lY.getD (Int.toNat i) 0).toNat:Int)=45)) (
 some [.b true]) (
 some [.b (decide (((lY.getD (Int.toNat i) 0).toNat:Int)=95))]))) (
 a7 (decide (((lY.getD (Int.toNat i) 0).toNat:Int)=45)) (
 some [.b true]) (
 some [.b (decide (((lY.getD (Int.toNat i) 0).toNat:Int)=95))])))) fun vs=>
 gC vs fun m1 jH=>
 gB m1 fun letter=>
 gN jH<|
 a7 (!letter) (
 some (.inr (1,[.b false]))) (
 some (.inl [.i .i64 (IntKind.wrap .i64 (i+1))]))) (
 some (.inr (2,[])))) [.i .i64 0]) fun p=>
 a7 (Nat.beq p.1 2) (
 gN p.2<|
 bd (
 a7 (decide ((1:Int)≤(lY.length:Int))) (
 some [.b (decide ((lY.length:Int)≤30))]) (
 some [.b false])) fun kc=>
 gC kc fun m2 pY=>
 gB m2 fun x=>
 gN pY<|
 some (.b x)) (
 cU (Nat.beq p.1 1)<|
 gC p.2 fun m3 mQ=>
 gB m3 fun x1=>
 gN mQ<|
 some (.b x1))
noncomputable def FA:Nat→List MV→Option MV:=bl 167 (nv vC) QB
theorem FB:ap Tryz.prog cx FA:=lS Mt [] 47 [(8,⟨[0],[],[],[(0,[(2,.sc (.k .b))])],[]⟩),(5,⟨[0,3,4],[],[],[(0,[(5,.sc (.k .b))])],[]⟩)] [] [(2,⟨[0],[],[(3,.sc (.k (.i .i64)))],[(1,[(2,.sc (.k .b))]),(2,[])],[]⟩)] Tryz.func167 (by kernel_rfl) (dA (fun _=>by kernel_rfl))
noncomputable def qQ (p:MV):Option MV:=
 gS p fun p1=>
 a7 (decide ((100:Int)<(p1.length:Int))) (
 some (.b false)) (
 bd (Be (.s p1)) fun rA=>
 gT rA fun vs=>
 VE vs fun x x1=>
 bd (Loop (fun jH=>
 gC jH fun m2 pY=>
 gI .i64 m2 fun i=>
 gN pY<|
 bG x fun len=>
 a7 (decide (i<(len:Int))) (
 idx x i fun y=>
 gS y fun x2=>
 bd (vC (.s x2)) fun aX=>
 gB aX fun x3=>
 a7 (!x3) (
 some (.inr (1,[.b false]))) (
 some (.inl [.i .i64 (IntKind.wrap .i64 (i+1))]))) (
 some (.inr (2,[])))) [.i .i64 0]) fun p2=>
 a7 (Nat.beq p2.1 2) (
 gN p2.2<|
 bd (
 a7 x1 (
 bG x fun eN=>
 some [.b (decide ((eN:Int)≤8))]) (
 some [.b false])) fun kc=>
 gC kc fun m3 mQ=>
 gB m3 fun x4=>
 gN mQ<|
 some (.b x4)) (
 cU (Nat.beq p2.1 1)<|
 gC p2.2 fun m4 nE=>
 gB m4 fun x5=>
 gN nE<|
 some (.b x5)))
noncomputable def IM:Nat→List MV→Option MV:=bl 100 (nv qQ) FA
theorem Hp:ap Tryz.prog cx IM:=lS FB [] 32 [(9,⟨[3,4],[],[],[(0,[(2,.sc (.k .b))])],[]⟩)] [] [(5,⟨[3,4],[],[(5,.sc (.k (.i .i64)))],[(1,[(2,.sc (.k .b))]),(2,[])],[]⟩)] Tryz.func100 (by kernel_rfl) (dA (fun _=>by kernel_rfl))
noncomputable def qR (p:MV):Option MV:=
 gS p fun p1=>
 bd (qQ (.s p1)) fun rA=>
 gB rA fun x=>
 a7 (!x) (
 some (.cN [.list ([]:List MV),.i .i64 13])) (
 bd (Be (.s p1)) fun aX=>
 gT aX fun vs=>
 VE vs fun x1 x2=>
 some (.cN [.list x1,.i .i64 0]))
noncomputable def IP:Nat→List MV→Option MV:=bl 168 (nv qR) IM
theorem Hq:ap Tryz.prog cx IP:=lS Hp [] 15 [] [] [] Tryz.func168 (by kernel_rfl) (dA (fun _=>by kernel_rfl))
noncomputable def yD (p q:MV):Option MV:=
 gS p fun p1=>
 gS q fun q1=>
 bd (qR (.s p1)) fun rA=>
 gT rA fun vs=>
 Mn .i64 vs fun x x1=>
 bd (qR (.s q1)) fun aX=>
 gT aX fun kc=>
 Mn .i64 kc fun x2 x3=>
 bd (
 a7 (!decide (x1=0)) (
 some [.b true]) (
 some [.b (!decide (x3=0))])) fun qu=>
 gC qu fun m4 mQ=>
 gB m4 fun x4=>
 gN mQ<|
 a7 x4 (
 some (.b false)) (
 bd (Loop (fun nE=>
 gC nE fun m5 tD=>
 gI .i64 m5 fun i=>
 gN tD<|
 bd (
 bG x fun len=>
 a7 (decide (i<(len:Int))) (
 bG x2 fun eN=>
 some [.b (decide (i<(eN:Int)))]) (
 some [.b false])) fun Zk=>
 gC Zk fun m6 pX=>
 gB m6 fun x5=>
 gN pX<|
 a7 x5 (
 idx x i fun y=>
 gS y fun x6=>
 idx x2 i fun y1=>
 gS y1 fun x7=>
 a7 (!decide (x6=x7)) (
 idx x i fun y2=>
 gS y2 fun x8=>
 idx x2 i fun y3=>
 gS y3 fun x9=>
 some (.inr (1,[.b (Op.bytesLess x8 x9)]))) (
 some (.inl [.i .i64 (IntKind.wrap .i64 (i+1))]))) (
 some (.inr (2,[])))) [.i .i64 0]) fun p2=>
 a7 (Nat.beq p2.1 2) (
 gN p2.2<|
 bG x fun hU=>
 bG x2 fun tC=>
 some (.b (decide ((hU:Int)<(tC:Int))))) (
 cU (Nat.beq p2.1 1)<|
 gC p2.2 fun m7 ox=>
 gB m7 fun za=>
 gN ox<|
 some (.b za)))
noncomputable def IQ:Nat→List MV→Option MV:=bl 101 (fa yD) IP
theorem Hr:ap Tryz.prog cx IQ:=At Hq [] [] 61 [] [] [] [(8,[0,1,2,3,4,5,6,7,8]),(9,[0,1,2,3,4,5,6,7,8,9])] [(6,⟨[5,7,9],[],[],[(0,[(35,.sc (.k .b))])],[]⟩),(3,⟨[5,6,7,8],[],[],[(0,[(25,.sc (.k .b))])],[]⟩)] [] [(6,⟨[5,7],[],[(9,.sc (.k (.i .i64)))],[(1,[(4,.sc (.k .b))]),(2,[])],[]⟩)] [] Tryz.func101 (by kernel_rfl) (bA (fun _ _=>by kernel_rfl))
noncomputable def Bf (lA:MV):Option MV:=
 gL lA fun Bd=>
 bd (Loop (fun jh=>
 gC jh fun m gh=>
 gS m fun out=>
 gC gh fun m1 jH=>
 gI .i64 m1 fun i=>
 gN jH<|
 bG Bd fun len=>
 a7 (decide (i<(len:Int))) (
 cU (decide (out.length+([47]:List UInt8).length≤2^46))<|
 idx Bd i fun y=>
 gS y fun x=>
 cU (decide ((out++([47]:List UInt8)).length+x.length≤2^46))<|
 some (.inl [.s ((out++([47]:List UInt8))++x),.i .i64 (IntKind.wrap .i64 (i+1))])) (
 some (.inr (2,[.s out])))) [.s ([]:List UInt8),.i .i64 0]) fun p=>
 cU (Nat.beq p.1 2)<|
 gC p.2 fun m2 pY=>
 gS m2 fun z8=>
 gN pY<|
 a7 (decide (z8=([]:List UInt8))) (
 some (.s ([47]:List UInt8))) (
 some (.s z8))
noncomputable def Mu:Nat→List MV→Option MV:=bl 169 (nv Bf) IQ
theorem KB:ap Tryz.prog cx Mu:=lS Hr [] 21 [] [] [(3,⟨[0],[],[(3,.sc (.k .s)),(4,.sc (.k (.i .i64)))],[(2,[(3,.sc (.k .s))])],[]⟩)] Tryz.func169 (by kernel_rfl) (dA (fun _=>by kernel_rfl))
noncomputable def vD (p:MV):Option MV:=
 gS p fun p1=>
 bd (qR (.s p1)) fun rA=>
 gT rA fun vs=>
 Mn .i64 vs fun x x1=>
 a7 (!decide (x1=0)) (
 some (.cN [.s ([]:List UInt8),.i .i64 x1])) (
 bG x fun len=>
 a7 (decide ((len:Int)=0)) (
 some (.cN [.s ([]:List UInt8),.i .i64 6])) (
 bG x fun eN=>
 bG x fun hU=>
 cU (decide ((0:Int)≤0∧(0:Int)≤(IntKind.wrap .i64 ((eN:Int)-1))∧(IntKind.wrap .i64 ((eN:Int)-1))≤(hU:Int)))<|
 bd (Bf (.list (List.drop (Int.toNat 0) (List.take (Int.toNat (IntKind.wrap .i64 ((eN:Int)-1))) x)))) fun aX=>
 gS aX fun x2=>
 some (.cN [.s x2,.i .i64 0])))
noncomputable def FC:Nat→List MV→Option MV:=bl 102 (nv vD) Mu
theorem FD:ap Tryz.prog cx FC:=lS KB [] 23 [] [] [] Tryz.func102 (by kernel_rfl) (dA (fun _=>by kernel_rfl))
noncomputable def FE (sA p:MV):Option MV:=
 gA sA fun cs=>
 gC cs fun m jh=>
 gL m fun L=>
 gN jh<|
 gS p fun p1=>
 bd (Loop (fun gh=>
 gC gh fun m1 jH=>
 gI .i64 m1 fun i=>
 gN jH<|
 bG L fun len=>
 a7 (decide (i<(len:Int))) (
 idx L i fun y=>
 gA y fun fT=>
 j6 .i64 .i64 fT fun Path Value Version bJ=>
 a7 (decide (Path=p1)) (
 some (.inr (1,[.i .i64 i]))) (
 some (.inl [.i .i64 (IntKind.wrap .i64 (i+1))]))) (
 some (.inr (2,[])))) [.i .i64 0]) fun p2=>
 a7 (Nat.beq p2.1 2) (
 gN p2.2<|
 some (.i .i64 (-1))) (
 cU (Nat.beq p2.1 1)<|
 gC p2.2 fun m6 pX=>
 gI .i64 m6 fun x=>
 gN pX<|
 some (.i .i64 x))
noncomputable def V2:Nat→List MV→Option MV:=bl 103 (fa FE) FC
theorem OQ:ap Tryz.prog cx V2:=lS FD [] 22 [] [] [(2,⟨[1,2],[],[(5,.sc (.k (.i .i64)))],[(1,[(4,.sc (.k (.i .i64)))]),(2,[])],[]⟩)] Tryz.func103 (by kernel_rfl) (bA (fun _ _=>by kernel_rfl))
noncomputable def yE (a:MV):Option MV:=
 gA a fun cs=>
 gC cs fun m jh=>
 gL m fun L=>
 gN jh<|
 bd (
 bG L fun len=>
 a7 (decide ((len:Int)<1)) (
 some [.b true]) (
 bG L fun eN=>
 some [.b (decide ((200:Int)<(eN:Int)))])) fun vs=>
 gC vs fun m1 gh=>
 gB m1 fun x=>
 gN gh<|
 a7 x (
 some (.b false)) (
 bd (Loop (fun jH=>
 gC jH fun m2 pY=>
 gI .i64 m2 fun x1=>
 gN pY<|
 bG L fun hU=>
 a7 (decide (x1<(hU:Int))) (
 idx L x1 fun y=>
 gA y fun fT=>
 j6 .i64 .i64 fT fun Path Value Version bJ=>
 bd (
 bd (qQ (.s Path)) fun rA=>
 gB rA fun x2=>
 a7 (!x2) (
 some [.b true]) (
 a7 (decide ((1000:Int)<(Value.length:Int))) (
 some [.b true]) (
 a7 (decide (Version<0)) (
 some [.b true]) (
 a7 (decide ((1000000000:Int)<Version)) (
 some [.b true]) (
 a7 (decide (bJ<0)) (
 some [.b true]) (
 a7 (decide ((0:Int)<x1)) (
 idx L (IntKind.wrap .i64 (x1-1)) fun y1=>
 gA y1 fun qK=>
 j6 .i64 .i64 qK fun gD dC bV vB=>
 bd (yD (.s gD) (.s Path)) fun aX=>
 gB aX fun x3=>
 some [.b (!x3)]) (
 some [.b false]))))))) fun kc=>
 gC kc fun VF xD=>
 gB VF fun x4=>
 gN xD<|
 a7 x4 (
 some (.inr (1,[.b false]))) (
 bd (vD (.s Path)) fun da=>
 gT da fun qu=>
 gC qu fun VG FF=>
 gS VG fun x5=>
 gC FF fun VH Mv=>
 gI .i64 VH fun x6=>
 gN Mv<|
 a7 (!decide (x6=0)) (
 a7 (!decide (bJ=0)) (
 some (.inr (1,[.b false]))) (
 some (.inl [.i .i64 (IntKind.wrap .i64 (x1+1))]))) (
 bd (FE (.agg [.list L]) (.s x5)) fun n0=>
 gI .i64 n0 fun x7=>
 bd (
 a7 (decide (x7<0)) (
 some [.b true]) (
 idx L x7 fun y2=>
 gA y2 fun oh=>
 j6 .i64 .i64 oh fun Mo Cl uu V3=>
 some [.b (!decide (V3=0))])) fun Zk=>
 gC Zk fun YZ Fz=>
 gB YZ fun x8=>
 gN Fz<|
 a7 x8 (
 some (.inr (1,[.b false]))) (
 some (.inl [.i .i64 (IntKind.wrap .i64 (x1+1))]))))) (
 some (.inr (2,[])))) [.i .i64 0]) fun p=>
 a7 (Nat.beq p.1 2) (
 gN p.2<|
 bd (FE (.agg [.list L]) (.s ([47]:List UInt8))) fun A9=>
 gI .i64 A9 fun x9=>
 some (.b (decide (x9=0)))) (
 cU (Nat.beq p.1 1)<|
 gC p.2 fun Y0 ji=>
 gB Y0 fun za=>
 gN ji<|
 some (.b za)))
noncomputable def IR:Nat→List MV→Option MV:=bl 55 (nv yE) V2
theorem Hs:ap Tryz.prog cx IR:=At OQ [] [] 100 [] [] [] [(7,[0,1,2,3,4,5,6,7,8,9,10,11,12,13,14,15,16,17,18,19,20,21,22,23,24,25,26,27,28,29,30,31,32,33,34,35,36,37,38,39,40,41])] [(14,⟨[1,3,7],[],[],[(0,[(96,.sc (.k .b))])],[]⟩),(7,⟨[1,3,4],[],[],[(0,[(71,.sc (.k .b))])],[]⟩),(1,⟨[1],[],[],[(0,[(17,.sc (.k .b))])],[]⟩)] [] [(4,⟨[1],[],[(3,.sc (.k (.i .i64)))],[(1,[(2,.sc (.k .b))]),(2,[])],[]⟩)] [] Tryz.func55 (by kernel_rfl) (dA (fun _=>by kernel_rfl))
noncomputable def yF (a:MV):Option MV:=
 gA a fun cs=>
 Nu .i64 cs fun dK L=>
 bd (
 a7 (decide (dK<0)) (
 some [.b true]) (
 a7 (decide ((1000000000:Int)<dK)) (
 some [.b true]) (
 bG L fun len=>
 some [.b (decide ((50:Int)<(len:Int)))]))) fun vs=>
 gC vs fun m2 jH=>
 gB m2 fun x=>
 gN jH<|
 a7 x (
 some (.b false)) (
 bd (Loop (fun pY=>
 gC pY fun m3 mQ=>
 gI .i64 m3 fun x1=>
 gN mQ<|
 bG L fun eN=>
 a7 (decide (x1<(eN:Int))) (
 idx L x1 fun y=>
 gA y fun fT=>
 Ci .i64 .i64 .i64 fT fun Id Span c9=>
 bd (
 a7 (decide (Id<1)) (
 some [.b true]) (
 a7 (decide (Span<1)) (
 some [.b true]) (
 a7 (decide ((1000:Int)<Span)) (
 some [.b true]) (
 a7 (decide (c9≤dK)) (
 some [.b true]) (
 a7 (decide ((IntKind.wrap .i64 (dK+Span))<c9)) (
 some [.b true]) (
 a7 (decide ((0:Int)<x1)) (
 idx L (IntKind.wrap .i64 (x1-1)) fun y1=>
 gA y1 fun qK=>
 Ci .i64 .i64 .i64 qK fun Id1 zE FG=>
 some [.b (decide (Id≤Id1))]) (
 some [.b false]))))))) fun kc=>
 gC kc fun R5 uw=>
 gB R5 fun x2=>
 gN uw<|
 a7 x2 (
 some (.inr (1,[.b false]))) (
 some (.inl [.i .i64 (IntKind.wrap .i64 (x1+1))]))) (
 some (.inr (2,[])))) [.i .i64 0]) fun p=>
 a7 (Nat.beq p.1 2) (
 gN p.2<|
 some (.b true)) (
 cU (Nat.beq p.1 1)<|
 gC p.2 fun VF xD=>
 gB VF fun x3=>
 gN xD<|
 some (.b x3)))
noncomputable def IU:Nat→List MV→Option MV:=bl 56 (nv yF) IR
theorem Ht:ap Tryz.prog cx IU:=At Hs [] [] 77 [] [] [] [(7,[0,1,2,3,4,5,6,7,8,9,10,11,12,13,14,15,16,17,18,19,20,21,22,23,24,25,26,27,28,29,30,31,32,33,34,35,36,37,38,39,40,41,42,43,44,45])] [(7,⟨[1,3,4],[],[],[(0,[(76,.sc (.k .b))])],[]⟩),(1,⟨[1],[],[],[(0,[(18,.sc (.k .b))])],[]⟩)] [] [(4,⟨[1],[],[(3,.sc (.k (.i .i64)))],[(1,[(2,.sc (.k .b))]),(2,[])],[]⟩)] [] Tryz.func56 (by kernel_rfl) (dA (fun _=>by kernel_rfl))
noncomputable def D9 (lA w:MV):Option MV:=
 gL lA fun Bd=>
 gA w fun cs=>
 zb .i64 cs fun Path Client Kids=>
 bd (Loop (fun pY=>
 gC pY fun m3 mQ=>
 gI .i64 m3 fun i=>
 gN mQ<|
 bG Bd fun len=>
 a7 (decide (i<(len:Int))) (
 idx Bd i fun y=>
 gA y fun fT=>
 zb .i64 fT fun gD cq IV=>
 a7 ((decide (gD=Path))&&((decide (cq=Client))&&(decide (IV=Kids)))) (
 some (.inr (1,[.b true]))) (
 some (.inl [.i .i64 (IntKind.wrap .i64 (i+1))]))) (
 some (.inr (2,[])))) [.i .i64 0]) fun p=>
 a7 (Nat.beq p.1 2) (
 gN p.2<|
 some (.b false)) (
 cU (Nat.beq p.1 1)<|
 gC p.2 fun m7 ox=>
 gB m7 fun x=>
 gN ox<|
 some (.b x))
noncomputable def QC:Nat→List MV→Option MV:=bl 104 (fa D9) IU
theorem Mw:ap Tryz.prog cx QC:=At Ht [] [] 18 [] [] [] [(4,[0,1,2,3,4,5])] [] [] [(2,⟨[0,3],[],[(5,.sc (.k (.i .i64)))],[(1,[(4,.sc (.k .b))]),(2,[])],[]⟩)] [] Tryz.func104 (by kernel_rfl) (bA (fun _ _=>by kernel_rfl))
noncomputable def yG (t:MV):Option MV:=
 gA t fun cs=>
 gC cs fun m jh=>
 gL m fun L=>
 gN jh<|
 bd (Loop (fun gh=>
 gC gh fun m1 jH=>
 gI .i64 m1 fun i=>
 gN jH<|
 bG L fun len=>
 a7 (decide (i<(len:Int))) (
 bd (
 idx L i fun y=>
 gA y fun fT=>
 zb .i64 fT fun Path Client Kids=>
 bd (qQ (.s Path)) fun rA=>
 gB rA fun x=>
 a7 (!x) (
 some [.b true]) (
 idx L i fun y1=>
 gA y1 fun qK=>
 zb .i64 qK fun gD cq IV=>
 a7 (decide (cq<0)) (
 some [.b true]) (
 bG L fun eN=>
 cU (decide ((0:Int)≤0∧(0:Int)≤i∧i≤(eN:Int)))<|
 idx L i fun y2=>
 gA y2 fun oh=>
 zb .i64 oh fun Mo Bb agh=>
 bd (D9 (.list (List.drop (Int.toNat 0) (List.take (Int.toNat i) L))) (.agg [.s Mo,.i .i64 Bb,.b agh])) fun aX=>
 gB aX fun x1=>
 some [.b x1]))) fun vs=>
 gC vs fun VF xD=>
 gB VF fun x2=>
 gN xD<|
 a7 x2 (
 some (.inr (1,[.b false]))) (
 some (.inl [.i .i64 (IntKind.wrap .i64 (i+1))]))) (
 some (.inr (2,[])))) [.i .i64 0]) fun p=>
 a7 (Nat.beq p.1 2) (
 gN p.2<|
 bG L fun hU=>
 some (.b (decide ((hU:Int)≤200)))) (
 cU (Nat.beq p.1 1)<|
 gC p.2 fun VG FF=>
 gB VG fun x3=>
 gN FF<|
 some (.b x3))
noncomputable def IW:Nat→List MV→Option MV:=bl 57 (nv yG) QC
theorem Hu:ap Tryz.prog cx IW:=At Mw [] [] 44 [] [] [] [(4,[0,1,2,3,4,5,6,7,8,9,10,11,12,13,14,15,16,17,18,19,20,21,22,23,24,25,26,27,28])] [(4,⟨[1,3],[],[],[(0,[(39,.sc (.k .b))])],[]⟩)] [] [(2,⟨[1],[],[(3,.sc (.k (.i .i64)))],[(1,[(2,.sc (.k .b))]),(2,[])],[]⟩)] [] Tryz.func57 (by kernel_rfl) (dA (fun _=>by kernel_rfl))
noncomputable def ux (a:MV):Option MV:=
 gA a fun cs=>
 gf .i64 cs fun dZ dB iN ew Seen=>
 bd (
 bd (yE (.agg [.list dZ])) fun rA=>
 gB rA fun x=>
 a7 (!x) (
 some [.b true]) (
 bd (yF (.agg [.i .i64 dB,.list iN])) fun aX=>
 gB aX fun x1=>
 a7 (!x1) (
 some [.b true]) (
 bd (yG (.agg [.list ew])) fun da=>
 gB da fun x2=>
 a7 (!x2) (
 some [.b true]) (
 bG Seen fun len=>
 some [.b (decide ((50:Int)<(len:Int)))])))) fun vs=>
 gC vs fun m5 nE=>
 gB m5 fun x3=>
 gN nE<|
 a7 x3 (
 some (.b false)) (
 bd (Loop (fun tD=>
 gC tD fun m6 pX=>
 gI .i64 m6 fun x4=>
 gN pX<|
 bG Seen fun eN=>
 a7 (decide (x4<(eN:Int))) (
 idx Seen x4 fun y=>
 gA y fun fT=>
 cF .i64 .i64 .i64 .i64 fT fun Client Seq E Value Version Names=>
 bd (
 a7 (decide (Client<0)) (
 some [.b true]) (
 a7 (decide ((1000:Int)<Client)) (
 some [.b true]) (
 a7 (decide (Seq<1)) (
 some [.b true]) (
 a7 (decide ((0:Int)<x4)) (
 idx Seen (IntKind.wrap .i64 (x4-1)) fun y1=>
 gA y1 fun qK=>
 cF .i64 .i64 .i64 .i64 qK fun cq nW E1 dC bV lT=>
 some [.b (decide (Client≤cq))]) (
 some [.b false]))))) fun kc=>
 gC kc fun Y0 ji=>
 gB Y0 fun x5=>
 gN ji<|
 a7 x5 (
 some (.inr (1,[.b false]))) (
 some (.inl [.i .i64 (IntKind.wrap .i64 (x4+1))]))) (
 some (.inr (2,[])))) [.i .i64 0]) fun p=>
 a7 (Nat.beq p.1 2) (
 gN p.2<|
 some (.b true)) (
 cU (Nat.beq p.1 1)<|
 gC p.2 fun Ba rI=>
 gB Ba fun x6=>
 gN rI<|
 some (.b x6)))
noncomputable def IX:Nat→List MV→Option MV:=bl 15 (nv ux) IW
theorem Hv:ap Tryz.prog cx IX:=At Hu [] [] 68 [] [] [] [(7,[0,1,2,3,4,5,6,7,8,9,10,11,12,13,14,15,16,17,18,19,20,21,22,23,24,25,26,27,28])] [(7,⟨[1,3,4],[],[],[(0,[(67,.sc (.k .b))])],[]⟩),(1,⟨[1],[],[],[(0,[(26,.sc (.k .b))])],[]⟩)] [] [(4,⟨[1],[],[(3,.sc (.k (.i .i64)))],[(1,[(2,.sc (.k .b))]),(2,[])],[]⟩)] [] Tryz.func15 (by kernel_rfl) (dA (fun _=>by kernel_rfl))
noncomputable def uy (rA:MV):Option MV:=
 gA rA fun cs=>
 cF .i64 .i64 .i64 .i64 cs fun Client Seq E Value Version Names=>
 some (.agg (dM Client Seq E Value Version Names))
noncomputable def Mx:Nat→List MV→Option MV:=bl 23 (nv uy) IX
theorem KC:ap Tryz.prog cx Mx:=lS Hv [] 16 [] [] [] Tryz.func23 (by kernel_rfl) (dA (fun _=>by kernel_rfl))
noncomputable def sV (lA:MV):Option MV:=
 gL lA fun Bd=>
 bd (Loop (fun jh=>
 Mn .i64 jh fun out i=>
 bG Bd fun len=>
 a7 (decide (i<(len:Int))) (
 idx Bd i fun y=>
 gA y fun cs=>
 cF .i64 .i64 .i64 .i64 cs fun Client Seq E Value Version Names=>
 bd (uy (.agg (dM Client Seq E Value Version Names))) fun rA=>
 gA rA fun fT=>
 cF .i64 .i64 .i64 .i64 fT fun cq nW E1 dC bV lT=>
 bG out fun eN=>
 bG ([.agg (dM cq nW E1 dC bV lT)]:List MV) fun hU=>
 cU (decide ((eN+hU) *72≤2^46))<|
 some (.inl [.list (out++([.agg (dM cq nW E1 dC bV lT)]:List MV)),.i .i64 (IntKind.wrap .i64 (i+1))])) (
 some (.inr (2,[.list out])))) [.list ([]:List MV),.i .i64 0]) fun p=>
 cU (Nat.beq p.1 2)<|
 gC p.2 fun m14 V4=>
 gL m14 fun z8=>
 gN V4<|
 some (.list z8)
noncomputable def Db:Nat→List MV→Option MV:=bl 33 (nv sV) Mx
theorem DG:ap Tryz.prog cx Db:=At KC [] [] 21 [18] [] [] [] [] [] [(3,⟨[0],[],[(3,.sc (.own 5 61 true)),(4,.sc (.k (.i .i64)))],[(2,[(3,.sc (.own 5 61 true))])],[5,18]⟩)] [] Tryz.func33 (by kernel_rfl) (dA (fun _=>by kernel_rfl))
noncomputable def uz (a:MV):Option MV:=
 gA a fun cs=>
 gf .i64 cs fun dZ dB iN ew Seen=>
 bd (sV (.list Seen)) fun rA=>
 gL rA fun x=>
 bd (Loop (fun nE=>
 gC nE fun m5 tD=>
 gL m5 fun xs=>
 gC tD fun m6 pX=>
 gI .i64 m6 fun x1=>
 gC pX fun m7 ox=>
 gL m7 fun G0=>
 gC ox fun m8 FH=>
 gL m8 fun V5=>
 Mn .i64 FH fun x2 x3=>
 bG dZ fun len=>
 a7 (decide (x3<(len:Int))) (
 idx dZ x3 fun y=>
 gA y fun fT=>
 j6 .i64 .i64 fT fun Path Value Version bJ=>
 bG xs fun eN=>
 bG ([.agg (ml Path Value Version bJ)]:List MV) fun hU=>
 cU (decide ((eN+hU) *48≤2^46))<|
 some (.inl (qA (xs++([.agg (ml Path Value Version bJ)]:List MV)) x1 G0 V5 x2 (IntKind.wrap .i64 (x3+1))))) (
 some (.inr (2,(cY xs x1 G0 V5 x2))))) (qA ([]:List MV) dB ([]:List MV) ([]:List MV) x 0)) fun p=>
 cU (Nat.beq p.1 2)<|
 gf .i64 p.2 fun xs3 x4 xs4 xs5 x5=>
 bd (Loop (fun rI=>
 gC rI fun Ba pD=>
 gL Ba fun xs6=>
 gC pD fun OR rH=>
 gI .i64 OR fun x6=>
 gC rH fun Sh My=>
 gL Sh fun xs7=>
 gC My fun Si xF=>
 gL Si fun xs8=>
 Mn .i64 xF fun x7 x8=>
 bG iN fun tC=>
 a7 (decide (x8<(tC:Int))) (
 idx iN x8 fun y1=>
 gA y1 fun qK=>
 Ci .i64 .i64 .i64 qK fun Id Span c9=>
 bG xs7 fun Ck=>
 bG ([.agg [.i .i64 Id,.i .i64 Span,.i .i64 c9]]:List MV) fun VV=>
 cU (decide ((Ck+VV) *24≤2^46))<|
 some (.inl (qA xs6 x6 (xs7++([.agg [.i .i64 Id,.i .i64 Span,.i .i64 c9]]:List MV)) xs8 x7 (IntKind.wrap .i64 (x8+1))))) (
 some (.inr (4,(cY xs6 x6 xs7 xs8 x7))))) (qA xs3 x4 xs4 xs5 x5 0)) fun p1=>
 cU (Nat.beq p1.1 4)<|
 gf .i64 p1.2 fun xs9 x9 ajP ajQ za=>
 bd (Loop (fun Fw=>
 gC Fw fun m34 Fx=>
 gL m34 fun agi=>
 gC Fx fun m35 Bc=>
 gI .i64 m35 fun BN=>
 gC Bc fun m36 FI=>
 gL m36 fun agk=>
 gC FI fun m37 FJ=>
 gL m37 fun acU=>
 Mn .i64 FJ fun C7 Cj=>
 bG ew fun VW=>
 a7 (decide (Cj<(VW:Int))) (
 idx ew Cj fun y2=>
 gA y2 fun oh=>
 zb .i64 oh fun gD Client Kids=>
 bG acU fun acQ=>
 bG ([.agg [.s gD,.i .i64 Client,.b Kids]]:List MV) fun acR=>
 cU (decide ((acQ+acR) *32≤2^46))<|
 some (.inl (qA agi BN agk (acU++([.agg [.s gD,.i .i64 Client,.b Kids]]:List MV)) C7 (IntKind.wrap .i64 (Cj+1))))) (
 some (.inr (6,(cY agi BN agk acU C7))))) (qA xs9 x9 ajP ajQ za 0)) fun p2=>
 cU (Nat.beq p2.1 6)<|
 gf .i64 p2.2 fun ajS DD ajT ajU DE=>
 some (.agg (cY ajS DD ajT ajU DE))
noncomputable def IY:Nat→List MV→Option MV:=bl 16 (nv uz) Db
theorem Hw:ap Tryz.prog cx IY:=At DG [] [] 105 [44,72,100] [] [] [(1,[0,1,2,3,4,5,6,7,8,9])] [] [] [(13,⟨[1,2],[3002000,3002002,3002003,3002004],[(3,.box [.own 3017000 124 true,.k (.i .i64),.own 3013001 127 true,.own 3017003 128 true,.k .l]),(8,.sc (.k (.i .i64)))],[(6,[(3,.box [.own 3017000 124 true,.k (.i .i64),.own 3013001 127 true,.own 3017003 128 true,.k .l])])],[44,72,100,3002000,3002002,3002003,3002004,3013001,3017000,3017003]⟩),(8,⟨[1,2],[3002000,3002002,3002003,3002004],[(3,.box [.own 3017000 124 true,.k (.i .i64),.own 3013001 127 true,.own 3017003 128 true,.k .l]),(6,.sc (.k (.i .i64)))],[(4,[(3,.box [.own 3017000 124 true,.k (.i .i64),.own 3013001 127 true,.own 3017003 128 true,.k .l])])],[44,72,100,3002000,3002002,3002003,3002004,3013001,3017000,3017003]⟩),(3,⟨[1,2],[3002000,3002002,3002003,3002004],[(3,.box [.own 3017000 124 true,.k (.i .i64),.own 3013001 127 true,.own 3017003 128 true,.k .l]),(4,.sc (.k (.i .i64)))],[(2,[(3,.box [.own 3017000 124 true,.k (.i .i64),.own 3013001 127 true,.own 3017003 128 true,.k .l])])],[44,72,100,3002000,3002002,3002003,3002004,3013001,3017000,3017003]⟩)] [] Tryz.func16 (by kernel_rfl) (dA (fun _=>by kernel_rfl))
noncomputable def mD (o:MV):Option MV:=
 gA o fun cs=>
 jg .i64 .i64 .i64 .i64 .i64 .i64 cs fun Client Seq Kind Path Value Version Session Span=>
 a7 (decide (Kind=1)) (
 some (.agg (dr Client Seq Kind Path Value 0 Session 0))) (
 bd (
 a7 (decide (Kind=2)) (
 some (0,[.b (decide (Kind=2))])) (
 bd (
 a7 (decide (Kind=5)) (
 some (0,[.b (decide (Kind=5))])) (
 bd (
 a7 (decide (Kind=10)) (
 some (0,[.b (decide (Kind=10))])) (
 some (0,[.b (decide (Kind=11))]))) fun p2=>
 cU (Nat.beq p2.1 0)<|
 gC p2.2 fun m8 ox=>
 gB m8 fun x=>
 gN ox<|
 some (0,[.b x]))) fun p1=>
 cU (Nat.beq p1.1 0)<|
 gC p1.2 fun m9 FH=>
 gB m9 fun x1=>
 gN FH<|
 some (0,[.b x1]))) fun p=>
 cU (Nat.beq p.1 0)<|
 gC p.2 fun R5 uA=>
 gB R5 fun x2=>
 gN uA<|
 a7 x2 (
 some (.agg (dr Client Seq Kind Path ([]:List UInt8) 0 0 0))) (
 a7 (decide (Kind=3)) (
 some (.agg (dr Client Seq Kind Path Value Version 0 0))) (
 a7 (decide (Kind=4)) (
 some (.agg (dr Client Seq Kind Path ([]:List UInt8) Version 0 0))) (
 a7 (decide (Kind=6)) (
 some (.agg (dr Client Seq Kind ([]:List UInt8) ([]:List UInt8) 0 Session Span))) (
 bd (
 a7 (decide (Kind=7)) (
 some (0,[.b (decide (Kind=7))])) (
 some (0,[.b (decide (Kind=8))]))) fun p3=>
 cU (Nat.beq p3.1 0)<|
 gC p3.2 fun VF uw=>
 gB VF fun x3=>
 gN uw<|
 a7 x3 (
 some (.agg (dr Client Seq Kind ([]:List UInt8) ([]:List UInt8) 0 Session 0))) (
 a7 (decide (Kind=9)) (
 some (.agg (dr Client Seq Kind ([]:List UInt8) ([]:List UInt8) 0 0 Span))) (
 some (.agg (dr Client Seq Kind ([]:List UInt8) ([]:List UInt8) 0 0 0)))))))))
noncomputable def wo:Nat→List MV→Option MV:=bl 81 (nv mD) IY
theorem zd:ap Tryz.prog cx wo:=At Hw [] [] 62 [] [34,36,49] [(1,[1])] [(14,[0,1,2,3,4,5,6,7,8,9,10,11]),(17,[0,1,2,3,4,5,6,7])] [] [(12,⟨[1,2,3,12],[],[],[(0,[(26,.sc (.k .b))])],[]⟩),(7,⟨[1,2,3,12],[],[],[(0,[(15,.sc (.k .b))])],[]⟩),(6,⟨[1,2,3,12],[],[],[(0,[(15,.sc (.k .b))])],[]⟩),(5,⟨[1,2,3,12],[],[],[(0,[(15,.sc (.k .b))])],[]⟩)] [] [] Tryz.func81 (by kernel_rfl) (dA (fun _=>by kernel_rfl))
noncomputable def uB (o:MV):Option MV:=
 gA o fun cs=>
 jg .i64 .i64 .i64 .i64 .i64 .i64 cs fun Client Seq Kind Path Value Version Session Span=>
 bd (
 a7 (decide ((0:Int)≤Client)) (
 a7 (decide (Client≤1000)) (
 a7 (decide ((1:Int)≤Seq)) (
 some [.b (decide (Seq≤1000000000))]) (
 some [.b false])) (
 some [.b false])) (
 some [.b false])) fun vs=>
 gC vs fun m8 ox=>
 gB m8 fun who=>
 gN ox<|
 bd (
 a7 who (
 a7 (decide ((0:Int)≤Kind)) (
 a7 (decide (Kind≤11)) (
 a7 (decide ((Path.length:Int)≤100)) (
 a7 (decide ((Value.length:Int)≤1000)) (
 bd (mD (.agg (dr Client Seq Kind Path Value Version Session Span))) fun rA=>
 gA rA fun fT=>
 jg .i64 .i64 .i64 .i64 .i64 .i64 fT fun cq nW V1 gD dC bV Fy zE=>
 some [.b ((decide (Client=cq))&&((decide (Seq=nW))&&((decide (Kind=V1))&&((decide (Path=gD))&&((decide (Value=dC))&&((decide (Version=bV))&&((decide (Session=Fy))&&(decide (Span=zE)))))))))]) (
 some [.b false])) (
 some [.b false])) (
 some [.b false])) (
 some [.b false])) (
 some [.b false])) fun kc=>
 gC kc fun m17 VU=>
 gB m17 fun x=>
 gN VU<|
 some (.b x)
noncomputable def IZ:Nat→List MV→Option MV:=bl 35 (nv uB) wo
theorem Hx:ap Tryz.prog cx IZ:=At zd [] [] 51 [] [] [] [(2,[0,1,2,3,4,5,6,7,8,9,10,11,12,13,14,15,16,17,18,19,20,21,22,23,24,25,26,27,28,29])] [(2,⟨[1,3],[],[],[(0,[(2,.sc (.k .b))])],[]⟩),(1,⟨[1],[],[],[(0,[(3,.sc (.k .b))])],[]⟩)] [] [] [] Tryz.func35 (by kernel_rfl) (dA (fun _=>by kernel_rfl))
noncomputable def nF (x:MV):Option MV:=
 gI .i64 x fun x1=>
 some (.b (!decide (x1=x1)))
noncomputable def Bg:Nat→List MV→Option MV:=bl 183 (nv nF) IZ
theorem Cm:ap Tryz.prog cx Bg:=lS Hx [] 6 [] [] [] Tryz.func183 (by kernel_rfl) (dA (fun _=>by kernel_rfl))
noncomputable def kV (x y:MV):Option MV:=
 gI .i64 x fun x1=>
 gI .i64 y fun y1=>
 bd (nF (.i .i64 x1)) fun rA=>
 gB rA fun x2=>
 bd (nF (.i .i64 y1)) fun aX=>
 gB aX fun x3=>
 a7 x2 (
 a7 x3 (
 some (.i .i64 0)) (
 some (.i .i64 (-1)))) (
 a7 x3 (
 some (.i .i64 1)) (
 a7 (decide (x1<y1)) (
 some (.i .i64 (-1))) (
 a7 (decide (y1<x1)) (
 some (.i .i64 1)) (
 some (.i .i64 0)))))
noncomputable def xG:Nat→List MV→Option MV:=bl 121 (fa kV) Bg
theorem Aa:ap Tryz.prog cx xG:=lS Cm [] 20 [] [] [] Tryz.func121 (by kernel_rfl) (bA (fun _ _=>by kernel_rfl))
noncomputable def jI (x dY:MV):Option MV:=
 gA x fun cs=>
 cF .i64 .i64 .i64 .i64 cs fun Client Seq E Value Version Names=>
 gI .i64 dY fun Bh=>
 bd (kV (.i .i64 Client) (.i .i64 Bh)) fun rA=>
 gI .i64 rA fun x1=>
 some (.i .i64 x1)
noncomputable def mR:Nat→List MV→Option MV:=bl 120 (fa jI) xG
theorem vE:ap Tryz.prog cx mR:=lS Aa [] 9 [] [] [] Tryz.func120 (by kernel_rfl) (bA (fun _ _=>by kernel_rfl))
noncomputable def cA:Nat→List MV→Option MV:=mR
theorem fR (x0 x1:MV):cA 120 [x0,x1]=jI x0 x1:=by kernel_rfl
noncomputable def cK (x target cmp:MV):Option MV:=
 gL x fun x1=>
 gI .i64 target fun sW=>
 gR cmp fun Mz=>
 bG x1 fun len=>
 bd (Loop (fun jh=>
 Nt .i64 .i64 jh fun i j=>
 a7 (decide (i<j)) (
 cU (decide ((0:Int)≤1))<|
 idx x1 (IntKind.wrap .i64 (Int.fdiv (IntKind.wrap .u64 (IntKind.wrap .i64 (i+j))) (2^min (Int.toNat 1) (IntKind.bits .u64)))) fun y=>
 gA y fun cs=>
 cF .i64 .i64 .i64 .i64 cs fun Client Seq E Value Version Names=>
 Ny Mz fun fn cap=>
 cU (!gv fn)<|
 bd (cA fn ([.agg (dM Client Seq E Value Version Names),.i .i64 sW]++cap)) fun rA=>
 gI .i64 rA fun x2=>
 bd (
 a7 (decide (x2<0)) (
 some (0,[.i .i64 (IntKind.wrap .i64 ((IntKind.wrap .i64 (Int.fdiv (IntKind.wrap .u64 (IntKind.wrap .i64 (i+j))) (2^min (Int.toNat 1) (IntKind.bits .u64))))+1)),.i .i64 j])) (
 some (0,[.i .i64 i,.i .i64 (IntKind.wrap .i64 (Int.fdiv (IntKind.wrap .u64 (IntKind.wrap .i64 (i+j))) (2^min (Int.toNat 1) (IntKind.bits .u64))))]))) fun p1=>
 cU (Nat.beq p1.1 0)<|
 Nt .i64 .i64 p1.2 fun i1 j1=>
 some (.inl [.i .i64 i1,.i .i64 j1])) (
 some (.inr (2,[.i .i64 i])))) [.i .i64 0,.i .i64 (len:Int)]) fun p=>
 cU (Nat.beq p.1 2)<|
 gC p.2 fun R5 uw=>
 gI .i64 R5 fun i2=>
 gN uw<|
 bd (
 a7 (decide (i2<(len:Int))) (
 idx x1 i2 fun y1=>
 gA y1 fun fT=>
 cF .i64 .i64 .i64 .i64 fT fun cq nW E1 dC bV lT=>
 Ny Mz fun Au sd=>
 cU (!gv Au)<|
 bd (cA Au ([.agg (dM cq nW E1 dC bV lT),.i .i64 sW]++sd)) fun aX=>
 gI .i64 aX fun x3=>
 some [.i .i64 i2,.b (decide (x3=0))]) (
 some [.i .i64 i2,.b false])) fun vs=>
 ON .i64 vs fun x4 x5=>
 some (.cN [.i .i64 x4,.b x5])
noncomputable def fU:Nat→List MV→Option MV:=bl 119 (Fl cK) mR
theorem kj:ap Tryz.prog cx fU:=lS vE [] 49 [(8,⟨[0,1,2,8,9],[],[],[(0,[(6,.sc (.k (.i .i64))),(7,.sc (.k .b))])],[]⟩)] [(6,⟨[0,1,2,8,11],[],[],[(0,[(9,.sc (.k (.i .i64))),(10,.sc (.k (.i .i64)))])],[]⟩)] [(3,⟨[0,1,2,8],[],[(9,.sc (.k (.i .i64))),(10,.sc (.k (.i .i64)))],[(2,[(9,.sc (.k (.i .i64)))])],[]⟩)] Tryz.func119 (by kernel_rfl) (qz (fun _ _ _=>by kernel_rfl))
noncomputable def jj (rA dY:MV):Option MV:=
 gA rA fun cs=>
 gf .i64 cs fun dZ dB iN ew Seen=>
 gI .i64 dY fun Bh=>
 bd (cK (.list Seen) (.i .i64 Bh) (.func 120 [])) fun aX=>
 gT aX fun vs=>
 ON .i64 vs fun x x1=>
 some (.cN [.i .i64 x,.b x1])
noncomputable def uC:Nat→List MV→Option MV:=bl 62 (fa jj) fU
theorem xH:ap Tryz.prog cx uC:=lS kj [] 12 [] [] [] Tryz.func62 (by kernel_rfl) (bA (fun _ _=>by kernel_rfl))
noncomputable def oz (rA dY:MV):Option MV:=
 gA rA fun cs=>
 gf .i64 cs fun dZ dB iN ew Seen=>
 gI .i64 dY fun Bh=>
 bd (jj (.agg (cY dZ dB iN ew Seen)) (.i .i64 Bh)) fun aX=>
 gT aX fun vs=>
 ON .i64 vs fun x x1=>
 a7 (!x1) (
 some (.cN [.agg (dM 0 0 0 ([]:List UInt8) 0 ([]:List MV)),.b false])) (
 idx Seen x fun y=>
 gA y fun fT=>
 cF .i64 .i64 .i64 .i64 fT fun Client Seq E Value Version Names=>
 some (.cN [.agg (dM Client Seq E Value Version Names),.b true]))
noncomputable def FK:Nat→List MV→Option MV:=bl 36 (fa oz) uC
theorem FL:ap Tryz.prog cx FK:=lS xH [] 22 [] [] [] Tryz.func36 (by kernel_rfl) (bA (fun _ _=>by kernel_rfl))
noncomputable def lC (rA o:MV):Option MV:=
 gA rA fun cs=>
 gf .i64 cs fun dZ dB iN ew Seen=>
 gA o fun fT=>
 jg .i64 .i64 .i64 .i64 .i64 .i64 fT fun Client Seq Kind Path Value Version Session Span=>
 bd (oz (.agg (cY dZ dB iN ew Seen)) (.i .i64 Client)) fun aX=>
 gT aX fun vs=>
 gC vs fun VH FF=>
 gA VH fun qK=>
 cF .i64 .i64 .i64 .i64 qK fun cq nW E dC bV Names=>
 gC FF fun Ba ji=>
 gB Ba fun x=>
 gN ji<|
 bd (uB (.agg (dr Client Seq Kind Path Value Version Session Span))) fun da=>
 gB da fun x1=>
 bd (
 a7 (!x1) (
 some (0,[.i .i64 0,.i .i64 0,.i .i64 0,.s ([]:List UInt8),.i .i64 0,.list ([]:List MV),.i .i64 Client,.i .i64 Seq,.i .i64 1,.s ([]:List UInt8),.i .i64 0,.list ([]:List MV)])) (
 bd (
 a7 x (
 some [.b (decide (nW=Seq))]) (
 some [.b false])) fun kc=>
 gC kc fun OR rI=>
 gB OR fun x2=>
 gN rI<|
 a7 x2 (
 some (1,[.i .i64 cq,.i .i64 nW,.i .i64 E,.s dC,.i .i64 bV,.list Names,.b true])) (
 bd (
 a7 x (
 some [.b (decide (Seq<nW))]) (
 some [.b false])) fun qu=>
 gC qu fun Sh pD=>
 gB Sh fun x3=>
 gN pD<|
 bd (
 a7 x3 (
 some (0,[.i .i64 0,.i .i64 0,.i .i64 0,.s ([]:List UInt8),.i .i64 0,.list ([]:List MV),.i .i64 Client,.i .i64 Seq,.i .i64 15,.s ([]:List UInt8),.i .i64 0,.list ([]:List MV)])) (
 bd (
 a7 (!x) (
 bG Seen fun len=>
 some [.b (decide ((50:Int)≤(len:Int)))]) (
 some [.b false])) fun Zk=>
 gC Zk fun Si rH=>
 gB Si fun x4=>
 gN rH<|
 a7 x4 (
 some (0,[.i .i64 0,.i .i64 0,.i .i64 0,.s ([]:List UInt8),.i .i64 0,.list ([]:List MV),.i .i64 Client,.i .i64 Seq,.i .i64 9,.s ([]:List UInt8),.i .i64 0,.list ([]:List MV)])) (
 some (1,[.i .i64 Client,.i .i64 Seq,.i .i64 0,.s ([]:List UInt8),.i .i64 0,.list ([]:List MV),.b false])))) fun p1=>
 a7 (Nat.beq p1.1 0) (
 gC p1.2 fun m24 My=>
 gI .i64 m24 fun x5=>
 gC My fun Zl xF=>
 gI .i64 Zl fun x6=>
 gC xF fun m26 V6=>
 gI .i64 m26 fun x7=>
 gC V6 fun m27 agm=>
 gS m27 fun x8=>
 gC agm fun m28 V7=>
 gI .i64 m28 fun x9=>
 gC V7 fun m29 agn=>
 gL m29 fun za=>
 cF .i64 .i64 .i64 .i64 agn fun BN C7 Cj DD DE Ft=>
 some (0,[.i .i64 x5,.i .i64 x6,.i .i64 x7,.s x8,.i .i64 x9,.list za,.i .i64 BN,.i .i64 C7,.i .i64 Cj,.s DD,.i .i64 DE,.list Ft])) (
 cU (Nat.beq p1.1 1)<|
 gC p1.2 fun m36 Fw=>
 gI .i64 m36 fun DF=>
 gC Fw fun m37 Fx=>
 gI .i64 m37 fun Fu=>
 gC Fx fun m38 Bc=>
 gI .i64 m38 fun GZ=>
 gC Bc fun m39 FI=>
 gS m39 fun OS=>
 gC FI fun m40 FJ=>
 gI .i64 m40 fun QD=>
 VE FJ fun Xu Zm=>
 some (1,[.i .i64 DF,.i .i64 Fu,.i .i64 GZ,.s OS,.i .i64 QD,.list Xu,.b Zm]))))) fun p=>
 a7 (Nat.beq p.1 0) (
 gC p.2 fun m43 MA=>
 gI .i64 m43 fun Zn=>
 gC MA fun m44 ags=>
 gI .i64 m44 fun x25=>
 gC ags fun m45 agt=>
 gI .i64 m45 fun x26=>
 gC agt fun m46 V8=>
 gS m46 fun x27=>
 gC V8 fun m47 V9=>
 gI .i64 m47 fun x28=>
 gC V9 fun m48 MB=>
 gL m48 fun x29=>
 cF .i64 .i64 .i64 .i64 MB fun x30 x31 x32 x33 x34 x35=>
 some (.cN [.agg (dM x30 x31 x32 x33 x34 x35),.b true])) (
 cU (Nat.beq p.1 1)<|
 gC p.2 fun m55 agA=>
 gI .i64 m55 fun x36=>
 gC agA fun m56 agC=>
 gI .i64 m56 fun x37=>
 gC agC fun m57 agE=>
 gI .i64 m57 fun x38=>
 gC agE fun m58 agG=>
 gS m58 fun x39=>
 gC agG fun m59 Wa=>
 gI .i64 m59 fun x40=>
 VE Wa fun x41 x42=>
 some (.cN [.agg (dM x36 x37 x38 x39 x40 x41),.b x42]))
noncomputable def uD:Nat→List MV→Option MV:=bl 58 (fa lC) FK
theorem xI:ap Tryz.prog cx uD:=lS FL [] 58 [(10,⟨[2,4,6,8],[],[],[(0,[(47,.sc (.k .b))])],[]⟩),(8,⟨[2,3,4,6,7,8],[],[],[(0,[(37,.sc (.k .b))])],[]⟩),(6,⟨[2,3,4,6,7,8],[],[],[(0,[(27,.sc (.k .b))])],[]⟩)] [(9,⟨[2,8],[],[],[(0,[(4,.box [.k (.i .i64),.k (.i .i64),.k (.i .i64),.k .s,.k (.i .i64),.k .l]),(6,.box [.k (.i .i64),.k (.i .i64),.k (.i .i64),.k .s,.k (.i .i64),.k .l])]),(1,[(4,.box [.k (.i .i64),.k (.i .i64),.k (.i .i64),.k .s,.k (.i .i64),.k .l]),(5,.sc (.k .b))])],[]⟩),(5,⟨[2,3,7,8],[],[],[(0,[(4,.box [.k (.i .i64),.k (.i .i64),.k (.i .i64),.k .s,.k (.i .i64),.k .l]),(6,.box [.k (.i .i64),.k (.i .i64),.k (.i .i64),.k .s,.k (.i .i64),.k .l])]),(1,[(4,.box [.k (.i .i64),.k (.i .i64),.k (.i .i64),.k .s,.k (.i .i64),.k .l]),(5,.sc (.k .b))])],[]⟩)] [] Tryz.func58 (by kernel_rfl) (bA (fun _ _=>by kernel_rfl))
noncomputable def jJ (w:List MV):Option MV:=
 az .i64 .i64 .i64 .i64 .i64 .i64 .i64 .i64 .i64 .i64 .i64 w fun cG ca dW cZ gZ cL mn fV eA dD bY bK fN cH lD xE dI cb dJ lA=>
 some (.ey (.cN []) (ar cG ca dW cZ gZ cL mn fV eA dD bY bK fN cH lD xE dI cb dJ lA))
noncomputable def rJ:Nat→List MV→Option MV:=bl 105 (Sg jJ) uD
theorem vF:ap Tryz.prog cx rJ:=Ns xI 0 jv [] [(0,1000000)] 2 [] [] [] [] [] [] [] [] Tryz.func105 (by kernel_rfl) (by kernel_rfl) (rG fun _=>by kernel_rfl)
noncomputable def kq (x id:MV):Option MV:=
 gA x fun cs=>
 Ci .i64 .i64 .i64 cs fun Id Span c9=>
 gI .i64 id fun Nv=>
 bd (kV (.i .i64 Id) (.i .i64 Nv)) fun rA=>
 gI .i64 rA fun x1=>
 some (.i .i64 x1)
noncomputable def nG:Nat→List MV→Option MV:=bl 144 (fa kq) rJ
theorem wM:ap Tryz.prog cx nG:=lS vF [] 9 [] [] [] Tryz.func144 (by kernel_rfl) (bA (fun _ _=>by kernel_rfl))
noncomputable def ch:Nat→List MV→Option MV:=nG
theorem fK (x0 x1:MV):ch 144 [x0,x1]=kq x0 x1:=by kernel_rfl
noncomputable def cB (x target cmp:MV):Option MV:=
 gL x fun x1=>
 gI .i64 target fun sW=>
 gR cmp fun Mz=>
 bG x1 fun len=>
 bd (Loop (fun jh=>
 Nt .i64 .i64 jh fun i j=>
 a7 (decide (i<j)) (
 cU (decide ((0:Int)≤1))<|
 idx x1 (IntKind.wrap .i64 (Int.fdiv (IntKind.wrap .u64 (IntKind.wrap .i64 (i+j))) (2^min (Int.toNat 1) (IntKind.bits .u64)))) fun y=>
 gA y fun cs=>
 Ci .i64 .i64 .i64 cs fun Id Span c9=>
 Ny Mz fun fn cap=>
 cU (!gv fn)<|
 bd (ch fn ([.agg [.i .i64 Id,.i .i64 Span,.i .i64 c9],.i .i64 sW]++cap)) fun rA=>
 gI .i64 rA fun x2=>
 bd (
 a7 (decide (x2<0)) (
 some (0,[.i .i64 (IntKind.wrap .i64 ((IntKind.wrap .i64 (Int.fdiv (IntKind.wrap .u64 (IntKind.wrap .i64 (i+j))) (2^min (Int.toNat 1) (IntKind.bits .u64))))+1)),.i .i64 j])) (
 some (0,[.i .i64 i,.i .i64 (IntKind.wrap .i64 (Int.fdiv (IntKind.wrap .u64 (IntKind.wrap .i64 (i+j))) (2^min (Int.toNat 1) (IntKind.bits .u64))))]))) fun p1=>
 cU (Nat.beq p1.1 0)<|
 Nt .i64 .i64 p1.2 fun i1 j1=>
 some (.inl [.i .i64 i1,.i .i64 j1])) (
 some (.inr (2,[.i .i64 i])))) [.i .i64 0,.i .i64 (len:Int)]) fun p=>
 cU (Nat.beq p.1 2)<|
 gC p.2 fun m7 ox=>
 gI .i64 m7 fun i2=>
 gN ox<|
 bd (
 a7 (decide (i2<(len:Int))) (
 idx x1 i2 fun y1=>
 gA y1 fun fT=>
 Ci .i64 .i64 .i64 fT fun Id1 zE FG=>
 Ny Mz fun Au sd=>
 cU (!gv Au)<|
 bd (ch Au ([.agg [.i .i64 Id1,.i .i64 zE,.i .i64 FG],.i .i64 sW]++sd)) fun aX=>
 gI .i64 aX fun x3=>
 some [.i .i64 i2,.b (decide (x3=0))]) (
 some [.i .i64 i2,.b false])) fun vs=>
 ON .i64 vs fun x4 x5=>
 some (.cN [.i .i64 x4,.b x5])
noncomputable def fE:Nat→List MV→Option MV:=bl 143 (Fl cB) nG
theorem jK:ap Tryz.prog cx fE:=lS wM [] 49 [(8,⟨[0,1,2,8,9],[],[],[(0,[(6,.sc (.k (.i .i64))),(7,.sc (.k .b))])],[]⟩)] [(6,⟨[0,1,2,8,11],[],[],[(0,[(9,.sc (.k (.i .i64))),(10,.sc (.k (.i .i64)))])],[]⟩)] [(3,⟨[0,1,2,8],[],[(9,.sc (.k (.i .i64))),(10,.sc (.k (.i .i64)))],[(2,[(9,.sc (.k (.i .i64)))])],[]⟩)] Tryz.func143 (by kernel_rfl) (qz (fun _ _ _=>by kernel_rfl))
noncomputable def fS (b id:MV):Option MV:=
 gA b fun cs=>
 Nu .i64 cs fun dK L=>
 gI .i64 id fun Nv=>
 bd (cB (.list L) (.i .i64 Nv) (.func 144 [])) fun rA=>
 gT rA fun vs=>
 ON .i64 vs fun x x1=>
 some (.cN [.i .i64 x,.b x1])
noncomputable def wu:Nat→List MV→Option MV:=bl 82 (fa fS) fE
theorem ze:ap Tryz.prog cx wu:=lS jK [] 12 [] [] [] Tryz.func82 (by kernel_rfl) (bA (fun _ _=>by kernel_rfl))
noncomputable def yH (b id:MV):Option MV:=
 gA b fun cs=>
 Nu .i64 cs fun dK L=>
 gI .i64 id fun Nv=>
 bd (fS (.agg [.i .i64 dK,.list L]) (.i .i64 Nv)) fun rA=>
 gT rA fun vs=>
 ON .i64 vs fun x x1=>
 some (.b x1)
noncomputable def I3:Nat→List MV→Option MV:=bl 37 (fa yH) wu
theorem Hy:ap Tryz.prog cx I3:=lS ze [] 14 [] [] [] Tryz.func37 (by kernel_rfl) (bA (fun _ _=>by kernel_rfl))
noncomputable def gQ (sA dj:MV):Option MV:=
 gS sA fun lY=>
 gS dj fun j7=>
 bd (
 a7 (decide ((j7.length:Int)≤(lY.length:Int))) (
 cU (decide ((0:Int)≤0∧(0:Int)≤(j7.length:Int)∧(j7.length:Int)≤(lY.length:Int)))<|
 some [.b (decide ((List.drop (Int.toNat 0) (List.take (Int.toNat (j7.length:Int)) lY))=j7))]) (
 some [.b false])) fun vs=>
 gC vs fun m jh=>
 gB m fun x=>
 gN jh<|
 some (.b x)
noncomputable def n3:Nat→List MV→Option MV:=bl 251 (fa gQ) I3
theorem se:ap Tryz.prog cx n3:=lS Hy [] 18 [(1,⟨[0,1],[],[],[(0,[(4,.sc (.k .b))])],[]⟩)] [] [] Tryz.func251 (by kernel_rfl) (bA (fun _ _=>by kernel_rfl))
noncomputable def gU (sA dj:MV):Option MV:=
 gS sA fun lY=>
 gS dj fun j7=>
 bd (gQ (.s lY) (.s j7)) fun rA=>
 gB rA fun x=>
 a7 (!x) (
 some (.cN [.s lY,.b false])) (
 cU (decide ((0:Int)≤(j7.length:Int)∧(j7.length:Int)≤(lY.length:Int)∧(lY.length:Int)≤(lY.length:Int)))<|
 some (.cN [.s (List.drop (Int.toNat (j7.length:Int)) (List.take (Int.toNat (lY.length:Int)) lY)),.b true]))
noncomputable def n4:Nat→List MV→Option MV:=bl 232 (fa gU) n3
theorem sf:ap Tryz.prog cx n4:=lS se [] 15 [] [] [] Tryz.func232 (by kernel_rfl) (bA (fun _ _=>by kernel_rfl))
noncomputable def kr (sA dj:MV):Option MV:=
 gS sA fun lY=>
 gS dj fun j7=>
 bd (gU (.s lY) (.s j7)) fun rA=>
 gT rA fun vs=>
 gC vs fun m jh=>
 gS m fun x=>
 gC jh fun m1 gh=>
 gB m1 fun x1=>
 gN gh<|
 some (.cN [.s x,.b x1])
noncomputable def sX:Nat→List MV→Option MV:=bl 193 (fa kr) n4
theorem wN:ap Tryz.prog cx sX:=lS sf [] 11 [] [] [] Tryz.func193 (by kernel_rfl) (bA (fun _ _=>by kernel_rfl))
noncomputable def oX (c:MV):Option MV:=
 gI .i32 c fun c1=>
 bd (rh [.s ([97,98,99,100,101,102,103,104,105,106,107,108,109,110,111,112,113,114,115,116,117,118,119,120,121,122,48,49,50,51,52,53,54,55,56,57,45,95]:List UInt8),.i .i32 c1]) fun rA=>
 gB rA fun x=>
 some (.b (!x))
noncomputable def tE:Nat→List MV→Option MV:=bl 237 (nv oX) sX
theorem Bi:ap Tryz.prog cx tE:=lS wN [] 6 [] [] [] Tryz.func237 (by kernel_rfl) (dA (fun _=>by kernel_rfl))
noncomputable def iz:Nat→List MV→Option MV:=tE
theorem pZ (x0:MV):iz 237 [x0]=oX x0:=by kernel_rfl
noncomputable def mE (sA f C6:MV):Option MV:=
 gS sA fun lY=>
 gR f fun f1=>
 gB C6 fun acV=>
 bd (Loop (fun jh=>
 gC jh fun m gh=>
 gL m fun es=>
 gN gh<|
 a7 (G9 es) (
 Ny f1 fun fn cap=>
 cU (!gv fn)<|
 bd (iz fn ([.i .i32 (xb es)]++cap)) fun rA=>
 gB rA fun x=>
 a7 (decide (x=acV)) (
 some (.inr (1,[.i .i64 (qi es)]))) (
 some (.inl [.list (zP es)]))) (
 some (.inr (2,[])))) [.list ([.s lY,.i .i64 0]:List MV)]) fun p=>
 a7 (Nat.beq p.1 2) (
 gN p.2<|
 some (.i .i64 (-1))) (
 cU (Nat.beq p.1 1)<|
 gC p.2 fun m1 jH=>
 gI .i64 m1 fun x1=>
 gN jH<|
 some (.i .i64 x1))
noncomputable def wv:Nat→List MV→Option MV:=bl 275 (Fl mE) tE
theorem zf:ap Tryz.prog cx wv:=lS Bi [] 21 [] [] [(2,⟨[1,2],[],[(10,.mp ⟨true,[],true⟩)],[(1,[(6,.sc (.k (.i .i64)))]),(2,[])],[]⟩)] Tryz.func275 (by kernel_rfl) (qz (fun _ _ _=>by kernel_rfl))
noncomputable def ku (sA f:MV):Option MV:=
 gS sA fun lY=>
 gR f fun f1=>
 bd (mE (.s lY) f1 (.b true)) fun rA=>
 gI .i64 rA fun x=>
 some (.i .i64 x)
noncomputable def sY:Nat→List MV→Option MV:=bl 262 (fa ku) wv
theorem wO:ap Tryz.prog cx sY:=lS zf [] 8 [] [] [] Tryz.func262 (by kernel_rfl) (bA (fun _ _=>by kernel_rfl))
noncomputable def iA (sA f:MV):Option MV:=
 gS sA fun lY=>
 gR f fun f1=>
 bd (ku (.s lY) f1) fun rA=>
 gI .i64 rA fun x=>
 some (.b (decide ((0:Int)≤x)))
noncomputable def pE:Nat→List MV→Option MV:=bl 236 (fa iA) sY
theorem tF:ap Tryz.prog cx pE:=lS wO [] 9 [] [] [] Tryz.func236 (by kernel_rfl) (bA (fun _ _=>by kernel_rfl))
noncomputable def sZ (sA:MV):Option MV:=
 gS sA fun lY=>
 bd (
 a7 (!decide (lY=([]:List UInt8))) (
 a7 (decide ((lY.length:Int)≤30)) (
 bd (Fm [.s lY,.s ([97,98,99,100,101,102,103,104,105,106,107,108,109,110,111,112,113,114,115,116,117,118,119,120,121,122,48,49,50,51,52,53,54,55,56,57,45,95]:List UInt8)]) fun rA=>
 gS rA fun x=>
 a7 (decide (x=([]:List UInt8))) (
 bd (iA (.s lY) (.func 237 [])) fun aX=>
 gB aX fun x1=>
 some [.b (!x1)]) (
 some [.b false])) (
 some [.b false])) (
 some [.b false])) fun vs=>
 gC vs fun m jh=>
 gB m fun x2=>
 gN jh<|
 some (.b x2)
noncomputable def Dc:Nat→List MV→Option MV:=bl 197 (nv sZ) pE
theorem DH:ap Tryz.prog cx Dc:=lS tF [] 20 [(1,⟨[0],[],[],[(0,[(2,.sc (.k .b))])],[]⟩)] [] [] Tryz.func197 (by kernel_rfl) (dA (fun _=>by kernel_rfl))
noncomputable def qB (sA:MV):Option MV:=
 gS sA fun lY=>
 bd (sZ (.s lY)) fun rA=>
 gB rA fun x=>
 some (.b (!x))
noncomputable def vG:Nat→List MV→Option MV:=bl 196 (nv qB) Dc
theorem Cn:ap Tryz.prog cx vG:=lS DH [] 6 [] [] [] Tryz.func196 (by kernel_rfl) (dA (fun _=>by kernel_rfl))
noncomputable def fb:Nat→List MV→Option MV:=vG
theorem mS (x0:MV):fb 196 [x0]=qB x0:=by kernel_rfl
noncomputable def gj (sA f:MV):Option MV:=
 gL sA fun lY=>
 gR f fun f1=>
 bG lY fun len=>
 bd (Loop (fun jh=>
 gC jh fun m gh=>
 gI .i64 m fun x=>
 gN gh<|
 a7 (decide (x<(len:Int))) (
 idx lY x fun y=>
 gS y fun x1=>
 Ny f1 fun fn cap=>
 cU (!gv fn)<|
 bd (fb fn ([.s x1]++cap)) fun rA=>
 gB rA fun x2=>
 a7 x2 (
 some (.inr (1,[.i .i64 x]))) (
 some (.inl [.i .i64 (IntKind.wrap .i64 (x+1))]))) (
 some (.inr (2,[])))) [.i .i64 0]) fun p=>
 a7 (Nat.beq p.1 2) (
 gN p.2<|
 some (.i .i64 (-1))) (
 cU (Nat.beq p.1 1)<|
 gC p.2 fun m1 jH=>
 gI .i64 m1 fun x3=>
 gN jH<|
 some (.i .i64 x3))
noncomputable def nH:Nat→List MV→Option MV:=bl 234 (fa gj) vG
theorem rK:ap Tryz.prog cx nH:=lS Cn [] 19 [] [] [(2,⟨[0,1,7],[],[(8,.sc (.k (.i .i64)))],[(1,[(4,.sc (.k (.i .i64)))]),(2,[])],[]⟩)] Tryz.func234 (by kernel_rfl) (bA (fun _ _=>by kernel_rfl))
noncomputable def eP (sA f:MV):Option MV:=
 gL sA fun lY=>
 gR f fun f1=>
 bd (gj (.list lY) f1) fun rA=>
 gI .i64 rA fun x=>
 some (.b (decide ((0:Int)≤x)))
noncomputable def lK:Nat→List MV→Option MV:=bl 195 (fa eP) nH
theorem pF:ap Tryz.prog cx lK:=lS rK [] 9 [] [] [] Tryz.func195 (by kernel_rfl) (bA (fun _ _=>by kernel_rfl))
noncomputable def jL (p:MV):Option MV:=
 gS p fun p1=>
 bd (kr (.s p1) (.s ([47]:List UInt8))) fun rA=>
 gT rA fun vs=>
 gC vs fun m jh=>
 gS m fun x=>
 gC jh fun m1 gh=>
 gB m1 fun x1=>
 gN gh<|
 bd (
 a7 (!x1) (
 some [.b true]) (
 some [.b (decide ((100:Int)<(p1.length:Int)))])) fun kc=>
 gC kc fun m2 jH=>
 gB m2 fun x2=>
 gN jH<|
 a7 x2 (
 some (.cN [.list ([]:List MV),.b false])) (
 a7 (decide (x=([]:List UInt8))) (
 some (.cN [.list ([]:List MV),.b true])) (
 bd (xx [.s x,.s ([47]:List UInt8)]) fun aX=>
 gF aX fun xs=>
 bd (
 bG xs fun len=>
 a7 (decide ((len:Int)≤8)) (
 bd (eP (.list xs) (.func 196 [])) fun da=>
 gB da fun x3=>
 some [.list xs,.b (!x3),.list xs]) (
 some [.list xs,.b false,.list xs])) fun qu=>
 gC qu fun m3 pY=>
 gL m3 fun G0=>
 gC pY fun m4 mQ=>
 gB m4 fun x4=>
 gC mQ fun m5 nE=>
 gL m5 fun lA=>
 gN nE<|
 some (.cN [.list lA,.b x4])))
noncomputable def FM:Nat→List MV→Option MV:=bl 137 (nv jL) lK
theorem FN:ap Tryz.prog cx FM:=lS pF [] 34 [(7,⟨[],[],[],[(0,[(2,.sc (.own 24 9 true)),(3,.sc (.k .b)),(6,.sc (.own 24 9 true))])],[24]⟩),(2,⟨[0,4,5],[],[],[(0,[(12,.sc (.k .b))])],[24]⟩)] [] [] Tryz.func137 (by kernel_rfl) (dA (fun _=>by kernel_rfl))
noncomputable def j8 (x:MV):Option MV:=
 gS x fun x1=>
 some (.b (!decide (x1=x1)))
noncomputable def wz:Nat→List MV→Option MV:=bl 264 (nv j8) FM
theorem zg:ap Tryz.prog cx wz:=lS FN [] 6 [] [] [] Tryz.func264 (by kernel_rfl) (dA (fun _=>by kernel_rfl))
noncomputable def kv (x y:MV):Option MV:=
 gS x fun x1=>
 gS y fun y1=>
 bd (j8 (.s x1)) fun rA=>
 gB rA fun x2=>
 bd (j8 (.s y1)) fun aX=>
 gB aX fun x3=>
 a7 x2 (
 a7 x3 (
 some (.i .i64 0)) (
 some (.i .i64 (-1)))) (
 a7 x3 (
 some (.i .i64 1)) (
 a7 (Op.bytesLess x1 y1) (
 some (.i .i64 (-1))) (
 a7 (!(Op.bytesLess x1 y1||decide (x1=y1))) (
 some (.i .i64 1)) (
 some (.i .i64 0)))))
noncomputable def s4:Nat→List MV→Option MV:=bl 240 (fa kv) wz
theorem wP:ap Tryz.prog cx s4:=lS zg [] 20 [] [] [] Tryz.func240 (by kernel_rfl) (bA (fun _ _=>by kernel_rfl))
noncomputable def iB (s1 s2:MV):Option MV:=
 gL s1 fun rL=>
 gL s2 fun wQ=>
 bG rL fun len=>
 bd (Loop (fun jh=>
 gC jh fun m gh=>
 gI .i64 m fun x=>
 gN gh<|
 a7 (decide (x<(len:Int))) (
 idx rL x fun y=>
 gS y fun x1=>
 bG wQ fun eN=>
 a7 (decide ((eN:Int)≤x)) (
 some (.inr (1,[.i .i64 1]))) (
 idx wQ x fun y1=>
 gS y1 fun x2=>
 bd (kv (.s x1) (.s x2)) fun rA=>
 gI .i64 rA fun x3=>
 a7 (!decide (x3=0)) (
 some (.inr (1,[.i .i64 x3]))) (
 some (.inl [.i .i64 (IntKind.wrap .i64 (x+1))])))) (
 some (.inr (2,[])))) [.i .i64 0]) fun p=>
 a7 (Nat.beq p.1 2) (
 gN p.2<|
 bG rL fun hU=>
 bG wQ fun tC=>
 a7 (decide ((hU:Int)<(tC:Int))) (
 some (.i .i64 (-1))) (
 some (.i .i64 0))) (
 cU (Nat.beq p.1 1)<|
 gC p.2 fun m1 jH=>
 gI .i64 m1 fun x4=>
 gN jH<|
 some (.i .i64 x4))
noncomputable def pG:Nat→List MV→Option MV:=bl 202 (fa iB) s4
theorem tG:ap Tryz.prog cx pG:=lS wP [] 36 [] [] [(2,⟨[0,1,9,10],[],[(11,.sc (.k (.i .i64)))],[(1,[(4,.sc (.k (.i .i64)))]),(2,[])],[]⟩)] Tryz.func202 (by kernel_rfl) (bA (fun _ _=>by kernel_rfl))
noncomputable def vH (p q:MV):Option MV:=
 gS p fun p1=>
 gS q fun q1=>
 bd (jL (.s p1)) fun rA=>
 gT rA fun vs=>
 VE vs fun x x1=>
 bd (jL (.s q1)) fun aX=>
 gT aX fun kc=>
 VE kc fun x2 x3=>
 bd (
 a7 x1 (
 a7 x3 (
 bd (iB (.list x) (.list x2)) fun da=>
 gI .i64 da fun x4=>
 some [.b (decide (x4<0))]) (
 some [.b false])) (
 some [.b false])) fun qu=>
 gC qu fun m4 mQ=>
 gB m4 fun x5=>
 gN mQ<|
 some (.b x5)
noncomputable def FO:Nat→List MV→Option MV:=bl 146 (fa vH) pG
theorem FP:ap Tryz.prog cx FO:=lS tG [] 29 [(3,⟨[5,6,7,8],[],[],[(0,[(4,.sc (.k .b))])],[]⟩)] [] [] Tryz.func146 (by kernel_rfl) (bA (fun _ _=>by kernel_rfl))
noncomputable def jM (n p:MV):Option MV:=
 gA n fun cs=>
 j6 .i64 .i64 cs fun Path Value Version bJ=>
 gS p fun p1=>
 a7 (decide (Path=p1)) (
 some (.i .i64 0)) (
 bd (vH (.s Path) (.s p1)) fun rA=>
 gB rA fun x=>
 a7 x (
 some (.i .i64 (-1))) (
 some (.i .i64 1)))
noncomputable def mT:Nat→List MV→Option MV:=bl 245 (fa jM) FO
theorem vI:ap Tryz.prog cx mT:=lS FP [] 15 [] [] [] Tryz.func245 (by kernel_rfl) (bA (fun _ _=>by kernel_rfl))
noncomputable def cj:Nat→List MV→Option MV:=mT
theorem fF (x0 x1:MV):cj 245 [x0,x1]=jM x0 x1:=by kernel_rfl
noncomputable def cC (x target cmp:MV):Option MV:=
 gL x fun x1=>
 gS target fun sW=>
 gR cmp fun Mz=>
 bG x1 fun len=>
 bd (Loop (fun jh=>
 Nt .i64 .i64 jh fun i j=>
 a7 (decide (i<j)) (
 cU (decide ((0:Int)≤1))<|
 idx x1 (IntKind.wrap .i64 (Int.fdiv (IntKind.wrap .u64 (IntKind.wrap .i64 (i+j))) (2^min (Int.toNat 1) (IntKind.bits .u64)))) fun y=>
 gA y fun cs=>
 j6 .i64 .i64 cs fun Path Value Version bJ=>
 Ny Mz fun fn cap=>
 cU (!gv fn)<|
 bd (cj fn ([.agg (ml Path Value Version bJ),.s sW]++cap)) fun rA=>
 gI .i64 rA fun x2=>
 bd (
 a7 (decide (x2<0)) (
 some (0,[.i .i64 (IntKind.wrap .i64 ((IntKind.wrap .i64 (Int.fdiv (IntKind.wrap .u64 (IntKind.wrap .i64 (i+j))) (2^min (Int.toNat 1) (IntKind.bits .u64))))+1)),.i .i64 j])) (
 some (0,[.i .i64 i,.i .i64 (IntKind.wrap .i64 (Int.fdiv (IntKind.wrap .u64 (IntKind.wrap .i64 (i+j))) (2^min (Int.toNat 1) (IntKind.bits .u64))))]))) fun p1=>
 cU (Nat.beq p1.1 0)<|
 Nt .i64 .i64 p1.2 fun i1 j1=>
 some (.inl [.i .i64 i1,.i .i64 j1])) (
 some (.inr (2,[.i .i64 i])))) [.i .i64 0,.i .i64 (len:Int)]) fun p=>
 cU (Nat.beq p.1 2)<|
 gC p.2 fun m8 FH=>
 gI .i64 m8 fun i2=>
 gN FH<|
 bd (
 a7 (decide (i2<(len:Int))) (
 idx x1 i2 fun y1=>
 gA y1 fun fT=>
 j6 .i64 .i64 fT fun gD dC bV vB=>
 Ny Mz fun Au sd=>
 cU (!gv Au)<|
 bd (cj Au ([.agg (ml gD dC bV vB),.s sW]++sd)) fun aX=>
 gI .i64 aX fun x3=>
 some [.i .i64 i2,.b (decide (x3=0))]) (
 some [.i .i64 i2,.b false])) fun vs=>
 ON .i64 vs fun x4 x5=>
 some (.cN [.i .i64 x4,.b x5])
noncomputable def fG:Nat→List MV→Option MV:=bl 244 (Fl cC) mT
theorem jN:ap Tryz.prog cx fG:=lS vI [] 49 [(8,⟨[0,1,2,8,9],[],[],[(0,[(6,.sc (.k (.i .i64))),(7,.sc (.k .b))])],[]⟩)] [(6,⟨[0,1,2,8,11],[],[],[(0,[(9,.sc (.k (.i .i64))),(10,.sc (.k (.i .i64)))])],[]⟩)] [(3,⟨[0,1,2,8],[],[(9,.sc (.k (.i .i64))),(10,.sc (.k (.i .i64)))],[(2,[(9,.sc (.k (.i .i64)))])],[]⟩)] Tryz.func244 (by kernel_rfl) (qz (fun _ _ _=>by kernel_rfl))
noncomputable def jk (sA p:MV):Option MV:=
 gA sA fun cs=>
 gC cs fun m jh=>
 gL m fun L=>
 gN jh<|
 gS p fun p1=>
 bd (cC (.list L) (.s p1) (.func 245 [])) fun rA=>
 gT rA fun vs=>
 ON .i64 vs fun x x1=>
 some (.cN [.i .i64 x,.b x1])
noncomputable def uE:Nat→List MV→Option MV:=bl 216 (fa jk) fG
theorem xJ:ap Tryz.prog cx uE:=lS jN [] 12 [] [] [] Tryz.func216 (by kernel_rfl) (bA (fun _ _=>by kernel_rfl))
noncomputable def kW (p:MV):Option MV:=
 gS p fun p1=>
 bd (jL (.s p1)) fun rA=>
 gT rA fun vs=>
 VE vs fun x x1=>
 some (.b x1)
noncomputable def FQ:Nat→List MV→Option MV:=bl 73 (nv kW) uE
theorem FR:ap Tryz.prog cx FQ:=lS xJ [] 11 [] [] [] Tryz.func73 (by kernel_rfl) (dA (fun _=>by kernel_rfl))
noncomputable def ej (sA c:MV):Option MV:=
 gS sA fun lY=>
 gI .u8 c fun c1=>
 bd (Loop (fun jh=>
 gC jh fun m gh=>
 gI .i64 m fun i=>
 gN gh<|
 a7 (decide ((0:Int)≤i)) (
 cU (decide ((0:Int)≤i∧i<(lY.length:Int)))<|
 a7 (decide (((lY.getD (Int.toNat i) 0).toNat:Int)=c1)) (
 some (.inr (1,[.i .i64 i]))) (
 some (.inl [.i .i64 (IntKind.wrap .i64 (i-1))]))) (
 some (.inr (2,[])))) [.i .i64 (IntKind.wrap .i64 ((lY.length:Int)-1))]) fun p=>
 a7 (Nat.beq p.1 2) (
 gN p.2<|
 some (.i .i64 (-1))) (
 cU (Nat.beq p.1 1)<|
 gC p.2 fun m1 jH=>
 gI .i64 m1 fun x=>
 gN jH<|
 some (.i .i64 x))
noncomputable def kw:Nat→List MV→Option MV:=bl 198 (fa ej) FQ
theorem nX:ap Tryz.prog cx kw:=lS FR [] 19 [] [] [(2,⟨[0,1],[],[(5,.sc (.k (.i .i64)))],[(1,[(4,.sc (.k (.i .i64)))]),(2,[])],[]⟩)] Tryz.func198 (by kernel_rfl) (bA (fun _ _=>by kernel_rfl))
noncomputable def fc (sep:MV):Option MV:=
 gS sep fun Zo=>
 bd (Loop (fun jh=>
 Nt .u32 .i64 jh fun hash i=>
 a7 (decide ((0:Int)≤i)) (
 cU (decide ((0:Int)≤i∧i<(Zo.length:Int)))<|
 some (.inl [.i .u32 (IntKind.wrap .u32 ((IntKind.wrap .u32 (hash *16777619))+(IntKind.wrap .u32 ((Zo.getD (Int.toNat i) 0).toNat:Int)))),.i .i64 (IntKind.wrap .i64 (i-1))])) (
 some (.inr (2,[.i .u32 hash])))) [.i .u32 0,.i .i64 (IntKind.wrap .i64 ((Zo.length:Int)-1))]) fun p=>
 cU (Nat.beq p.1 2)<|
 gC p.2 fun m2 pY=>
 gI .u32 m2 fun agJ=>
 gN pY<|
 bd (Loop (fun mQ=>
 Ci .u32 .u32 .i64 mQ fun pow sq i1=>
 a7 (decide ((0:Int)<i1)) (
 none) (
 some (.inr (4,[.i .u32 pow])))) [.i .u32 1,.i .u32 16777619,.i .i64 (Zo.length:Int)]) fun p1=>
 cU (Nat.beq p1.1 4)<|
 gC p1.2 fun m6 ox=>
 gI .u32 m6 fun aj0=>
 gN ox<|
 some (.cN [.i .u32 agJ,.i .u32 aj0])
noncomputable def mq:Nat→List MV→Option MV:=bl 239 (nv fc) kw
theorem p0:ap Tryz.prog cx mq:=lS nX [] 40 [] [(11,⟨[4,7,8],[],[],[(0,[(6,.sc (.k (.i .u32)))])],[]⟩)] [(8,⟨[4],[],[(6,.sc (.k (.i .u32))),(7,.sc (.k (.i .u32))),(8,.sc (.k (.i .i64)))],[(4,[(6,.sc (.k (.i .u32)))])],[]⟩),(3,⟨[0],[],[(4,.sc (.k (.i .u32))),(5,.sc (.k (.i .i64)))],[(2,[(4,.sc (.k (.i .u32)))])],[]⟩)] Tryz.func239 (by kernel_rfl) (dA (fun _=>by kernel_rfl))
noncomputable def dk (a a1:MV):Option MV:=
 gS a fun a2=>
 gS a1 fun uF=>
 bd (fc (.s uF)) fun rA=>
 gT rA fun vs=>
 Nt .u32 .u32 vs fun x x1=>
 bd (Loop (fun jH=>
 Nt .u32 .i64 jH fun x2 x3=>
 a7 (decide ((IntKind.wrap .i64 ((a2.length:Int)-(uF.length:Int)))≤x3)) (
 cU (decide ((0:Int)≤x3∧x3<(a2.length:Int)))<|
 some (.inl [.i .u32 (IntKind.wrap .u32 ((IntKind.wrap .u32 (x2 *16777619))+(IntKind.wrap .u32 ((a2.getD (Int.toNat x3) 0).toNat:Int)))),.i .i64 (IntKind.wrap .i64 (x3-1))])) (
 some (.inr (2,[.i .u32 x2])))) [.i .u32 0,.i .i64 (IntKind.wrap .i64 ((a2.length:Int)-1))]) fun p=>
 cU (Nat.beq p.1 2)<|
 gC p.2 fun m4 nE=>
 gI .u32 m4 fun x4=>
 gN nE<|
 bd (
 a7 (decide (x4=x)) (
 cU (decide ((0:Int)≤(IntKind.wrap .i64 ((a2.length:Int)-(uF.length:Int)))∧(IntKind.wrap .i64 ((a2.length:Int)-(uF.length:Int)))≤(a2.length:Int)∧(a2.length:Int)≤(a2.length:Int)))<|
 some [.b (decide ((List.drop (Int.toNat (IntKind.wrap .i64 ((a2.length:Int)-(uF.length:Int)))) (List.take (Int.toNat (a2.length:Int)) a2))=uF))]) (
 some [.b false])) fun kc=>
 gC kc fun m5 tD=>
 gB m5 fun x5=>
 gN tD<|
 a7 x5 (
 some (.i .i64 (IntKind.wrap .i64 ((a2.length:Int)-(uF.length:Int))))) (
 bd (Loop (fun pX=>
 Nt .u32 .i64 pX fun x6 x7=>
 a7 (decide ((0:Int)≤x7)) (
 cU (decide ((0:Int)≤x7∧x7<(a2.length:Int)))<|
 cU (decide ((0:Int)≤(IntKind.wrap .i64 (x7+(uF.length:Int)))∧(IntKind.wrap .i64 (x7+(uF.length:Int)))<(a2.length:Int)))<|
 bd (
 a7 (decide ((IntKind.wrap .u32 ((IntKind.wrap .u32 ((IntKind.wrap .u32 (x6 *16777619))+(IntKind.wrap .u32 ((a2.getD (Int.toNat x7) 0).toNat:Int))))-(IntKind.wrap .u32 (x1 *(IntKind.wrap .u32 ((a2.getD (Int.toNat (IntKind.wrap .i64 (x7+(uF.length:Int)))) 0).toNat:Int))))))=x)) (
 cU (decide ((0:Int)≤x7∧x7≤(IntKind.wrap .i64 (x7+(uF.length:Int)))∧(IntKind.wrap .i64 (x7+(uF.length:Int)))≤(a2.length:Int)))<|
 some [.b (decide ((List.drop (Int.toNat x7) (List.take (Int.toNat (IntKind.wrap .i64 (x7+(uF.length:Int)))) a2))=uF))]) (
 some [.b false])) fun qu=>
 gC qu fun m8 uA=>
 gB m8 fun x8=>
 gN uA<|
 a7 x8 (
 some (.inr (1,[.i .i64 x7]))) (
 some (.inl [.i .u32 (IntKind.wrap .u32 ((IntKind.wrap .u32 ((IntKind.wrap .u32 (x6 *16777619))+(IntKind.wrap .u32 ((a2.getD (Int.toNat x7) 0).toNat:Int))))-(IntKind.wrap .u32 (x1 *(IntKind.wrap .u32 ((a2.getD (Int.toNat (IntKind.wrap .i64 (x7+(uF.length:Int)))) 0).toNat:Int)))))),.i .i64 (IntKind.wrap .i64 (x7-1))]))) (
 some (.inr (4,[])))) [.i .u32 x4,.i .i64 (IntKind.wrap .i64 ((IntKind.wrap .i64 ((a2.length:Int)-(uF.length:Int)))-1))]) fun p1=>
 a7 (Nat.beq p1.1 4) (
 gN p1.2<|
 some (.i .i64 (-1))) (
 cU (Nat.beq p1.1 1)<|
 gC p1.2 fun m9 uw=>
 gI .i64 m9 fun x9=>
 gN uw<|
 some (.i .i64 x9)))
noncomputable def iC:Nat→List MV→Option MV:=bl 199 (fa dk) mq
theorem lU:ap Tryz.prog cx iC:=lS p0 [] 87 [(17,⟨[0,1,5,6,7,9,11],[],[],[(0,[(85,.sc (.k .b))])],[]⟩),(9,⟨[0,1,5,6,7,8,9],[],[],[(0,[(47,.sc (.k .b))])],[]⟩)] [] [(12,⟨[0,1,5,6,7],[],[(9,.sc (.k (.i .u32))),(11,.sc (.k (.i .i64)))],[(1,[(4,.sc (.k (.i .i64)))]),(4,[])],[]⟩),(6,⟨[0,1,5,6,7,8],[],[(9,.sc (.k (.i .u32))),(10,.sc (.k (.i .i64)))],[(2,[(9,.sc (.k (.i .u32)))])],[]⟩)] Tryz.func199 (by kernel_rfl) (bA (fun _ _=>by kernel_rfl))
noncomputable def kz (sA substr:MV):Option MV:=
 gS sA fun lY=>
 gS substr fun s5=>
 a7 (decide ((s5.length:Int)=0)) (
 some (.i .i64 (lY.length:Int))) (
 a7 (decide ((s5.length:Int)=1)) (
 cU (decide ((0:Int)≤0∧(0:Int)<(s5.length:Int)))<|
 bd (ej (.s lY) (.i .u8 ((s5.getD (Int.toNat 0) 0).toNat:Int))) fun rA=>
 gI .i64 rA fun x=>
 some (.i .i64 x)) (
 a7 (decide ((s5.length:Int)=(lY.length:Int))) (
 a7 (decide (s5=lY)) (
 some (.i .i64 0)) (
 some (.i .i64 (-1)))) (
 a7 (decide ((lY.length:Int)<(s5.length:Int))) (
 some (.i .i64 (-1))) (
 bd (dk (.s lY) (.s s5)) fun aX=>
 gI .i64 aX fun x1=>
 some (.i .i64 x1)))))
noncomputable def s6:Nat→List MV→Option MV:=bl 138 (fa kz) iC
theorem wR:ap Tryz.prog cx s6:=lS lU [] 36 [] [] [] Tryz.func138 (by kernel_rfl) (bA (fun _ _=>by kernel_rfl))
noncomputable def pH (p:MV):Option MV:=
 gS p fun p1=>
 bd (kW (.s p1)) fun rA=>
 gB rA fun x=>
 a7 (!x) (
 some (.cN [.s ([]:List UInt8),.i .i64 13])) (
 a7 (decide (p1=([47]:List UInt8))) (
 some (.cN [.s ([]:List UInt8),.i .i64 6])) (
 bd (kz (.s p1) (.s ([47]:List UInt8))) fun aX=>
 gI .i64 aX fun x1=>
 cU (decide ((0:Int)≤0∧(0:Int)≤(imax 1 x1)∧(imax 1 x1)≤(p1.length:Int)))<|
 some (.cN [.s (List.drop (Int.toNat 0) (List.take (Int.toNat (imax 1 x1)) p1)),.i .i64 0])))
noncomputable def Dd:Nat→List MV→Option MV:=bl 74 (nv pH) s6
theorem DI:ap Tryz.prog cx Dd:=lS wR [] 16 [] [] [] Tryz.func74 (by kernel_rfl) (dA (fun _=>by kernel_rfl))
noncomputable def ib (sA p:MV):Option MV:=
 gA sA fun cs=>
 gC cs fun m jh=>
 gL m fun L=>
 gN jh<|
 gS p fun p1=>
 bd (kW (.s p1)) fun rA=>
 gB rA fun x=>
 a7 (!x) (
 some (.cN [.i .i64 0,.i .i64 13])) (
 bd (jk (.agg [.list L]) (.s p1)) fun aX=>
 gT aX fun vs=>
 ON .i64 vs fun x1 x2=>
 a7 (!x2) (
 some (.cN [.i .i64 0,.i .i64 6])) (
 some (.cN [.i .i64 x1,.i .i64 0])))
noncomputable def wA:Nat→List MV→Option MV:=bl 220 (fa ib) Dd
theorem zh:ap Tryz.prog cx wA:=lS DI [] 20 [] [] [] Tryz.func220 (by kernel_rfl) (bA (fun _ _=>by kernel_rfl))
noncomputable def qS (sA p:MV):Option MV:=
 gA sA fun cs=>
 gC cs fun m jh=>
 gL m fun L=>
 gN jh<|
 gS p fun p1=>
 bd (ib (.agg [.list L]) (.s p1)) fun rA=>
 gT rA fun vs=>
 Nt .i64 .i64 vs fun x x1=>
 a7 (!decide (x1=0)) (
 some (.cN [.agg (ml ([]:List UInt8) ([]:List UInt8) 0 0),.i .i64 x1])) (
 idx L x fun y=>
 gA y fun fT=>
 j6 .i64 .i64 fT fun Path Value Version bJ=>
 some (.cN [.agg (ml Path Value Version bJ),.i .i64 0]))
noncomputable def I4:Nat→List MV→Option MV:=bl 172 (fa qS) wA
theorem Hz:ap Tryz.prog cx I4:=lS zh [] 23 [] [] [] Tryz.func172 (by kernel_rfl) (bA (fun _ _=>by kernel_rfl))
noncomputable def nI (c c1 c2 c3 c4:MV):Option MV:=
 gP c fun cs=>
 gC cs fun m jh=>
 gS m fun x=>
 gN jh<|
 gP c1 fun fT=>
 gC fT fun m1 gh=>
 gB m1 fun x1=>
 gN gh<|
 gP c2 fun qK=>
 gC qK fun m2 jH=>
 gL m2 fun L=>
 gN jH<|
 gP c3 fun oh=>
 gC oh fun m3 pY=>
 gS m3 fun x2=>
 gN pY<|
 gP c4 fun VX=>
 gC VX fun m4 mQ=>
 gI .i64 m4 fun x3=>
 gN mQ<|
 bd (kW (.s x)) fun rA=>
 gB rA fun x4=>
 a7 (!x4) (
 some (.i .i64 13)) (
 a7 x1 (
 some (.i .i64 7)) (
 bd (pH (.s x)) fun aX=>
 gT aX fun vs=>
 gC vs fun m5 nE=>
 gS m5 fun x5=>
 gC nE fun m6 tD=>
 gI .i64 m6 fun x6=>
 gN tD<|
 bd (qS (.agg [.list L]) (.s x5)) fun da=>
 gT da fun kc=>
 gC kc fun m7 pX=>
 gA m7 fun cs5=>
 j6 .i64 .i64 cs5 fun Path Value Version bJ=>
 gC pX fun VG xD=>
 gI .i64 VG fun x7=>
 gN xD<|
 a7 (!decide (x7=0)) (
 some (.i .i64 6)) (
 a7 (!decide (bJ=0)) (
 some (.i .i64 10)) (
 a7 (decide ((1000:Int)<(x2.length:Int))) (
 some (.i .i64 5)) (
 a7 (decide (x3<0)) (
 some (.i .i64 1)) (
 bG L fun len=>
 a7 (decide ((200:Int)≤(len:Int))) (
 some (.i .i64 9)) (
 some (.i .i64 0))))))))
noncomputable def xK:Nat→List MV→Option MV:=bl 217 (acw nI) I4
theorem Ab:ap Tryz.prog cx xK:=lS Hz [[.s],[.b],[.l],[.s],[.i .i64]] 44 [] [] [] Tryz.func217 (by kernel_rfl) (YI (fun _ _ _ _ _=>by kernel_rfl))
noncomputable def qC (sA p value owner:MV):Option MV:=
 gA sA fun cs=>
 gC cs fun m jh=>
 gL m fun L=>
 gN jh<|
 gS p fun p1=>
 gS value fun xL=>
 gI .i64 owner fun Co=>
 bd (jk (.agg [.list L]) (.s p1)) fun rA=>
 gT rA fun vs=>
 ON .i64 vs fun x x1=>
 bd (nI (.rp [.s p1]) (.rp [.b x1]) (.rp [.list L]) (.rp [.s xL]) (.rp [.i .i64 Co])) fun aX=>
 gI .i64 aX fun x2=>
 a7 (!decide (x2=0)) (
 some (.cN [.agg [.list L],.i .i64 x2])) (
 both (
 bd (fZ 4 48 [.list L]) fun da=>
 gF da fun xs=>
 bd (jD 48 [.fresh xs,.i .i64 x,.fresh ([.agg (ml p1 xL 0 Co)]:List MV)]) fun n0=>
 gF n0 fun G0=>
 some (.cN [.agg [.list G0],.i .i64 0])) (
 bd (fZ 4 48 [.list L]) fun A9=>
 gF A9 fun V5=>
 bd (jD 48 [.fresh V5,.i .i64 x,.fresh ([.agg (ml p1 xL 0 Co)]:List MV)]) fun K7=>
 gF K7 fun xs3=>
 some (.cN [.agg [.list xs3],.i .i64 0])))
noncomputable def Bj:Nat→List MV→Option MV:=bl 170 (YH qC) xK
theorem Cp:ap Tryz.prog cx Bj:=At Ab [] [] 38 [] [] [] [(6,[0,1,3,4,5,6,7,2,8,9,10,11,12,0,1,3,4,5,6,7,8,2,9,10,11,12,2,8])] [] [] [] [] Tryz.func170 (by kernel_rfl) (Qr (fun _ _ _ _=>by kernel_rfl))
noncomputable def e8 (w:List MV) (kind:MV):Option MV:=
 gI .i64 kind fun aa5=>
 az .i64 .i64 .i64 .i64 .i64 .i64 .i64 .i64 .i64 .i64 .i64 w fun cG ca dW cZ gZ cL mn fV eA dD bY bK fN cH lD xE dI cb dJ lA=>
 bd (
 a7 (decide (xE=0)) (
 bG lA fun len=>
 bG ([.agg [.i .i64 aa5,.s eA]]:List MV) fun eN=>
 cU (decide ((len+eN) *24≤2^46))<|
 some (0,(ar cG ca dW cZ gZ cL mn fV eA dD bY bK fN cH lD xE dI cb dJ (lA++([.agg [.i .i64 aa5,.s eA]]:List MV))))) (
 some (0,(ar cG ca dW cZ gZ cL mn fV eA dD bY bK fN cH lD xE dI cb dJ lA)))) fun p=>
 cU (Nat.beq p.1 0)<|
 az .i64 .i64 .i64 .i64 .i64 .i64 .i64 .i64 .i64 .i64 .i64 p.2 fun x x1 x2 x3 x4 x5 x6 x7 x8 x9 za BN C7 Cj DD DE Ft DF Fu xs=>
 some (.ey (.cN []) (ar x x1 x2 x3 x4 x5 x6 x7 x8 x9 za BN C7 Cj DD DE Ft DF Fu xs))
noncomputable def rM:Nat→List MV→Option MV:=bl 171 (cl2 e8) Bj
theorem vJ:ap Tryz.prog cx rM:=Ns Cp 0 jv [] [(0,1000000)] 26 [22] [] [] [(1,[0,1,2,3,4,5,6,7,8,9,10,11,12,13,14,15,16])] [] [(1,⟨[0,1],[],[],[(0,[(1000000,.box [.k .l,.k (.i .i64),.k .l,.k .l,.k .l,.k (.i .i64),.k (.i .i64),.k (.i .i64),.k .s,.k .s,.k (.i .i64),.k (.i .i64),.k (.i .i64),.k (.i .i64),.k (.i .i64),.k (.i .i64),.k .s,.k (.i .i64),.k .l,.own 2000019 77 false])])],[22]⟩)] [] [] Tryz.func171 (by kernel_rfl) (by kernel_rfl) (VT fun _ _=>by kernel_rfl)
noncomputable def kA (w:List MV):Option MV:=
 az .i64 .i64 .i64 .i64 .i64 .i64 .i64 .i64 .i64 .i64 .i64 w fun cG ca dW cZ gZ cL mn fV eA dD bY bK fN cH lD xE dI cb dJ lA=>
 bd (
 a7 (!decide (bK=0)) (
 bd (yH (.agg [.i .i64 ca,.list dW]) (.i .i64 bK)) fun rA=>
 gB rA fun x=>
 some [.b (!x)]) (
 some [.b false])) fun vs=>
 gC vs fun Ba ji=>
 gB Ba fun x1=>
 gN ji<|
 a7 x1 (
 some (.ey (.cN []) (ar cG ca dW cZ gZ cL mn fV eA dD bY bK fN cH lD 14 dI cb dJ lA))) (
 bd (qC (.agg [.list cG]) (.s eA) (.s dD) (.i .i64 bK)) fun aX=>
 gT aX fun kc=>
 gC kc fun OR rI=>
 gA OR fun cs=>
 gC cs fun Sh pD=>
 gL Sh fun L=>
 gN pD<|
 gC rI fun Si rH=>
 gI .i64 Si fun x2=>
 gN rH<|
 bd (e8 (ar L ca dW cZ gZ cL mn fV eA dD bY bK fN cH lD x2 dI cb dJ lA) (.i .i64 1)) fun da=>
 gW da fun x3 ls=>
 az .i64 .i64 .i64 .i64 .i64 .i64 .i64 .i64 .i64 .i64 .i64 ls fun kX kf oY mr tH mu zF tI rN oZ kg kh tJ mw zG Wb o4 lE o6 Bd=>
 some (.ey (.cN []) (ar kX kf oY mr tH mu zF tI rN oZ kg kh tJ mw zG Wb o4 lE o6 Bd)))
noncomputable def s7:Nat→List MV→Option MV:=bl 106 (Sg kA) rM
theorem wS:ap Tryz.prog cx s7:=Ns vJ 0 jv [] [(0,1000000)] 60 [] [] [] [(0,[0,1,2,3,4,5,6,7,8,9,10,11,12,13,14,15,16,17,18,19]),(2,[0,1,2,3,4,5,6,7,8,9,10,11,12,13,14,15,16,17,18,19,20,21,22,23,24,25,26,27,28,29,30,31,32,33])] [(0,⟨[0,1000000],[2000019],[],[(0,[(21,.sc (.k .b))])],[]⟩)] [] [] [] Tryz.func106 (by kernel_rfl) (by kernel_rfl) (rG fun _=>by kernel_rfl)
noncomputable def nJ (w:List MV):Option MV:=
 az .i64 .i64 .i64 .i64 .i64 .i64 .i64 .i64 .i64 .i64 .i64 w fun cG ca dW cZ gZ cL mn fV eA dD bY bK fN cH lD xE dI cb dJ lA=>
 bd (qS (.agg [.list cG]) (.s eA)) fun rA=>
 gT rA fun vs=>
 gC vs fun Ba ji=>
 gA Ba fun cs=>
 j6 .i64 .i64 cs fun Path Value Version bJ=>
 gC ji fun Zl xF=>
 gI .i64 Zl fun x=>
 gN xF<|
 some (.ey (.cN []) (ar cG ca dW cZ gZ cL mn fV eA dD bY bK fN cH lD x Value Version dJ lA))
noncomputable def xM:Nat→List MV→Option MV:=bl 107 (Sg nJ) s7
theorem Ac:ap Tryz.prog cx xM:=Ns wS 0 jv [] [(0,1000000)] 35 [] [24] [(1,[2])] [(0,[0,1,2,3,4,5,6,7,8,9,10,11,12,13,14,15,16]),(1,[0,1,2,3,4,5,6,7,8,9,10,11,12,13,14,15,16,17,18,19])] [] [] [] [] Tryz.func107 (by kernel_rfl) (by kernel_rfl) (rG fun _=>by kernel_rfl)
noncomputable def fH (sA p version:MV):Option MV:=
 gA sA fun cs=>
 gC cs fun m jh=>
 gL m fun L=>
 gN jh<|
 gS p fun p1=>
 gI .i64 version fun uG=>
 bd (ib (.agg [.list L]) (.s p1)) fun rA=>
 gT rA fun vs=>
 Nt .i64 .i64 vs fun x x1=>
 bd (
 a7 (decide (x1=0)) (
 a7 (!decide (uG=(-1))) (
 idx L x fun y=>
 gA y fun fT=>
 j6 .i64 .i64 fT fun Path Value Version bJ=>
 some [.b (!decide (uG=Version))]) (
 some [.b false])) (
 some [.b false])) fun kc=>
 gC kc fun m7 pX=>
 gB m7 fun x2=>
 gN pX<|
 a7 x2 (
 some (.cN [.i .i64 x,.i .i64 8])) (
 some (.cN [.i .i64 x,.i .i64 x1]))
noncomputable def pI:Nat→List MV→Option MV:=bl 221 (Fl fH) xM
theorem tK:ap Tryz.prog cx pI:=lS Ac [] 35 [(2,⟨[2,3,8,9],[],[],[(0,[(31,.sc (.k .b))])],[]⟩)] [] [] Tryz.func221 (by kernel_rfl) (qz (fun _ _ _=>by kernel_rfl))
noncomputable def yI (sA p value version:MV):Option MV:=
 gA sA fun cs=>
 gC cs fun m jh=>
 gL m fun L=>
 gN jh<|
 gS p fun p1=>
 gS value fun xL=>
 gI .i64 version fun uG=>
 bd (fH (.agg [.list L]) (.s p1) (.i .i64 uG)) fun rA=>
 gT rA fun vs=>
 Nt .i64 .i64 vs fun x x1=>
 a7 (!decide (x1=0)) (
 some (.cN [.agg [.list L],.i .i64 x1])) (
 a7 (decide ((1000:Int)<(xL.length:Int))) (
 some (.cN [.agg [.list L],.i .i64 5])) (
 idx L x fun y=>
 gA y fun fT=>
 j6 .i64 .i64 fT fun Path Value Version bJ=>
 a7 (decide ((1000000000:Int)≤Version)) (
 some (.cN [.agg [.list L],.i .i64 9])) (
 bd (fZ 4 48 [.list L]) fun aX=>
 gF aX fun xs=>
 idx xs x fun y1=>
 gA y1 fun qK=>
 j6 .i64 .i64 qK fun gD dC bV vB=>
 idx (xs.set (Int.toNat x) (.agg (ml gD xL bV vB))) x fun y2=>
 gA y2 fun oh=>
 j6 .i64 .i64 oh fun Mo Cl uu V3=>
 idx (xs.set (Int.toNat x) (.agg (ml gD xL bV vB))) x fun y3=>
 gA y3 fun VX=>
 j6 .i64 .i64 VX fun agK OO Mp acW=>
 some (.cN [.agg [.list ((xs.set (Int.toNat x) (.agg (ml gD xL bV vB))).set (Int.toNat x) (.agg (ml agK OO (IntKind.wrap .i64 (uu+1)) acW)))],.i .i64 0]))))
noncomputable def I5:Nat→List MV→Option MV:=bl 173 (YH yI) pI
theorem HA:ap Tryz.prog cx I5:=lS tK [] 59 [] [] [] Tryz.func173 (by kernel_rfl) (Qr (fun _ _ _ _=>by kernel_rfl))
noncomputable def nK (w:List MV):Option MV:=
 az .i64 .i64 .i64 .i64 .i64 .i64 .i64 .i64 .i64 .i64 .i64 w fun cG ca dW cZ gZ cL mn fV eA dD bY bK fN cH lD xE dI cb dJ lA=>
 bd (yI (.agg [.list cG]) (.s eA) (.s dD) (.i .i64 bY)) fun rA=>
 gT rA fun vs=>
 gC vs fun Ba ji=>
 gA Ba fun cs=>
 gC cs fun OR rI=>
 gL OR fun L=>
 gN rI<|
 gC ji fun Sh pD=>
 gI .i64 Sh fun x=>
 gN pD<|
 bd (e8 (ar L ca dW cZ gZ cL mn fV eA dD bY bK fN cH lD x dI cb dJ lA) (.i .i64 2)) fun aX=>
 gW aX fun x1 ls=>
 az .i64 .i64 .i64 .i64 .i64 .i64 .i64 .i64 .i64 .i64 .i64 ls fun kX kf oY mr tH mu zF tI rN oZ kg kh tJ mw zG Wb o4 lE o6 Bd=>
 bd (
 a7 (decide (Wb=0)) (
 bd (qS (.agg [.list kX]) (.s rN)) fun da=>
 gT da fun kc=>
 gC kc fun m43 MA=>
 gA m43 fun fT=>
 j6 .i64 .i64 fT fun Path Value Version bJ=>
 gC MA fun m48 MB=>
 gI .i64 m48 fun x2=>
 gN MB<|
 some (0,(ar kX kf oY mr tH mu zF tI rN oZ kg kh tJ mw zG Wb o4 Version o6 Bd))) (
 some (0,(ar kX kf oY mr tH mu zF tI rN oZ kg kh tJ mw zG Wb o4 lE o6 Bd)))) fun p=>
 cU (Nat.beq p.1 0)<|
 az .i64 .i64 .i64 .i64 .i64 .i64 .i64 .i64 .i64 .i64 .i64 p.2 fun x3 x4 x5 x6 x7 x8 x9 za BN C7 Cj DD DE Ft DF Fu GZ OS QD xs=>
 some (.ey (.cN []) (ar x3 x4 x5 x6 x7 x8 x9 za BN C7 Cj DD DE Ft DF Fu GZ OS QD xs))
noncomputable def xN:Nat→List MV→Option MV:=bl 108 (Sg nK) I5
theorem Ad:ap Tryz.prog cx xN:=Ns HA 0 jv [] [(0,1000000)] 64 [] [] [] [(0,[0,1,2,3,4,5,6,7,8,9,10,11,12,13,14,15,16,17,18,19,20,21,22,23,24,25,26,27,28,29,30,31,32,33]),(3,[0,1,2,3,4,5,6,7,8,9,10,11,12,13,14,15,16])] [] [(3,⟨[0],[],[],[(0,[(1000000,.box [.k .l,.k (.i .i64),.k .l,.k .l,.k .l,.k (.i .i64),.k (.i .i64),.k (.i .i64),.k .s,.k .s,.k (.i .i64),.k (.i .i64),.k (.i .i64),.k (.i .i64),.k (.i .i64),.k (.i .i64),.k .s,.k (.i .i64),.k .l,.own 2000019 77 false])])],[]⟩)] [] [] Tryz.func108 (by kernel_rfl) (by kernel_rfl) (rG fun _=>by kernel_rfl)
noncomputable def gE (s1 s2:MV):Option MV:=
 gL s1 fun rL=>
 gL s2 fun wQ=>
 bG rL fun len=>
 bG wQ fun eN=>
 a7 (!decide ((len:Int)=(eN:Int))) (
 some (.b false)) (
 bG rL fun hU=>
 bd (Loop (fun jh=>
 gC jh fun m gh=>
 gI .i64 m fun x=>
 gN gh<|
 a7 (decide (x<(hU:Int))) (
 idx rL x fun y=>
 gS y fun x1=>
 idx wQ x fun y1=>
 gS y1 fun x2=>
 a7 (!decide (x1=x2)) (
 some (.inr (1,[.b false]))) (
 some (.inl [.i .i64 (IntKind.wrap .i64 (x+1))]))) (
 some (.inr (2,[])))) [.i .i64 0]) fun p=>
 a7 (Nat.beq p.1 2) (
 gN p.2<|
 some (.b true)) (
 cU (Nat.beq p.1 1)<|
 gC p.2 fun m1 jH=>
 gB m1 fun x3=>
 gN jH<|
 some (.b x3)))
noncomputable def rO:Nat→List MV→Option MV:=bl 142 (fa gE) xN
theorem vK:ap Tryz.prog cx rO:=At Ad [] [] 26 [] [] [] [(6,[0,1,2,3,4,5,6,7,8])] [] [] [(4,⟨[0,1,12],[],[(13,.sc (.k (.i .i64)))],[(1,[(4,.sc (.k .b))]),(2,[])],[]⟩)] [] Tryz.func142 (by kernel_rfl) (bA (fun _ _=>by kernel_rfl))
noncomputable def rP (p q:MV):Option MV:=
 gS p fun p1=>
 gS q fun q1=>
 bd (jL (.s p1)) fun rA=>
 gT rA fun vs=>
 VE vs fun x x1=>
 bd (jL (.s q1)) fun aX=>
 gT aX fun kc=>
 VE kc fun x2 x3=>
 bd (
 a7 x1 (
 a7 x3 (
 bG x2 fun len=>
 bG x fun eN=>
 a7 (decide ((eN:Int)<(len:Int))) (
 bG x fun hU=>
 bG x2 fun tC=>
 cU (decide ((0:Int)≤0∧(0:Int)≤(hU:Int)∧(hU:Int)≤(tC:Int)))<|
 bd (gE (.list x) (.list (List.drop (Int.toNat 0) (List.take (Int.toNat (hU:Int)) x2)))) fun da=>
 gB da fun x4=>
 some [.b x4]) (
 some [.b false])) (
 some [.b false])) (
 some [.b false])) fun qu=>
 gC qu fun m4 mQ=>
 gB m4 fun x5=>
 gN mQ<|
 some (.b x5)
noncomputable def FU:Nat→List MV→Option MV:=bl 222 (fa rP) rO
theorem FV:ap Tryz.prog cx FU:=lS vK [] 38 [(3,⟨[5,6,7,8],[],[],[(0,[(4,.sc (.k .b))])],[]⟩)] [] [] Tryz.func222 (by kernel_rfl) (bA (fun _ _=>by kernel_rfl))
noncomputable def qD (sA p version:MV):Option MV:=
 gA sA fun cs=>
 gC cs fun m jh=>
 gL m fun L=>
 gN jh<|
 gS p fun p1=>
 gI .i64 version fun uG=>
 bd (fH (.agg [.list L]) (.s p1) (.i .i64 uG)) fun rA=>
 gT rA fun vs=>
 Nt .i64 .i64 vs fun x x1=>
 a7 (decide (p1=([47]:List UInt8))) (
 some (.cN [.agg [.list L],.i .i64 13])) (
 a7 (!decide (x1=0)) (
 some (.cN [.agg [.list L],.i .i64 x1])) (
 bd (
 bG L fun len=>
 a7 (decide ((IntKind.wrap .i64 (x+1))<(len:Int))) (
 idx L (IntKind.wrap .i64 (x+1)) fun y=>
 gA y fun fT=>
 j6 .i64 .i64 fT fun Path Value Version bJ=>
 bd (rP (.s p1) (.s Path)) fun aX=>
 gB aX fun x2=>
 some [.b x2]) (
 some [.b false])) fun kc=>
 gC kc fun m7 pX=>
 gB m7 fun x3=>
 gN pX<|
 a7 x3 (
 some (.cN [.agg [.list L],.i .i64 10])) (
 bd (fZ 4 48 [.list L]) fun da=>
 gF da fun xs=>
 bd (oT [.fresh xs,.i .i64 x,.i .i64 (IntKind.wrap .i64 (x+1))]) fun n0=>
 gF n0 fun G0=>
 some (.cN [.agg [.list G0],.i .i64 0]))))
noncomputable def Bk:Nat→List MV→Option MV:=bl 174 (Fl qD) FU
theorem Cq:ap Tryz.prog cx Bk:=lS FV [] 53 [(6,⟨[1,3,6,8],[],[],[(0,[(26,.sc (.k .b))])],[47,51]⟩)] [] [] Tryz.func174 (by kernel_rfl) (qz (fun _ _ _=>by kernel_rfl))
noncomputable def kC (w:List MV):Option MV:=
 az .i64 .i64 .i64 .i64 .i64 .i64 .i64 .i64 .i64 .i64 .i64 w fun cG ca dW cZ gZ cL mn fV eA dD bY bK fN cH lD xE dI cb dJ lA=>
 bd (qD (.agg [.list cG]) (.s eA) (.i .i64 bY)) fun rA=>
 gT rA fun vs=>
 gC vs fun Ba ji=>
 gA Ba fun cs=>
 gC cs fun OR rI=>
 gL OR fun L=>
 gN rI<|
 gC ji fun Sh pD=>
 gI .i64 Sh fun x=>
 gN pD<|
 bd (e8 (ar L ca dW cZ gZ cL mn fV eA dD bY bK fN cH lD x dI cb dJ lA) (.i .i64 3)) fun aX=>
 gW aX fun x1 ls=>
 az .i64 .i64 .i64 .i64 .i64 .i64 .i64 .i64 .i64 .i64 .i64 ls fun kX kf oY mr tH mu zF tI rN oZ kg kh tJ mw zG Wb o4 lE o6 Bd=>
 some (.ey (.cN []) (ar kX kf oY mr tH mu zF tI rN oZ kg kh tJ mw zG Wb o4 lE o6 Bd))
noncomputable def s8:Nat→List MV→Option MV:=bl 109 (Sg kC) Bk
theorem wT:ap Tryz.prog cx s8:=Ns Cq 0 jv [] [(0,1000000)] 31 [] [] [] [(0,[0,1,2,3,4,5,6,7,8,9,10,11,12,13,14,15,16,17,18,19,20,21,22,23,24,25,26,27,28])] [] [] [] [] Tryz.func109 (by kernel_rfl) (by kernel_rfl) (rG fun _=>by kernel_rfl)
noncomputable def rQ (p:MV):Option MV:=
 gS p fun p1=>
 bd (jL (.s p1)) fun rA=>
 gT rA fun vs=>
 VE vs fun x x1=>
 a7 (!x1) (
 some (.cN [.list ([]:List MV),.i .i64 13])) (
 some (.cN [.list x,.i .i64 0]))
noncomputable def FW:Nat→List MV→Option MV:=bl 224 (nv rQ) s8
theorem FX:ap Tryz.prog cx FW:=lS wT [] 14 [] [] [] Tryz.func224 (by kernel_rfl) (dA (fun _=>by kernel_rfl))
noncomputable def vL (a a1:MV):Option MV:=
 gA a fun cs=>
 gC cs fun m jh=>
 gL m fun L=>
 gN jh<|
 gS a1 fun uF=>
 bd (ib (.agg [.list L]) (.s uF)) fun rA=>
 gT rA fun vs=>
 Nt .i64 .i64 vs fun x x1=>
 a7 (!decide (x1=0)) (
 some (.cN [.list ([]:List MV),.i .i64 x1])) (
 bd (rQ (.s uF)) fun aX=>
 gT aX fun kc=>
 Mn .i64 kc fun x2 x3=>
 cU (tk 4 L)<|
 bG L fun len=>
 cU (decide ((0:Int)≤(IntKind.wrap .i64 (x+1))∧(IntKind.wrap .i64 (x+1))≤(len:Int)∧(len:Int)≤(len:Int)))<|
 bG (List.drop (Int.toNat (IntKind.wrap .i64 (x+1))) (List.take (Int.toNat (len:Int)) L)) fun eN=>
 bd (Loop (fun nE=>
 Mn .i64 nE fun xs x4=>
 a7 (decide (x4<(eN:Int))) (
 idx (List.drop (Int.toNat (IntKind.wrap .i64 (x+1))) (List.take (Int.toNat (len:Int)) L)) x4 fun y=>
 gA y fun fT=>
 j6 .i64 .i64 fT fun Path Value Version bJ=>
 bd (rP (.s uF) (.s Path)) fun da=>
 gB da fun x5=>
 a7 (!x5) (
 some (.inr (2,[.list xs]))) (
 bd (rQ (.s Path)) fun n0=>
 gT n0 fun qu=>
 Mn .i64 qu fun x6 x7=>
 bG x6 fun hU=>
 bG x2 fun tC=>
 bd (
 a7 (decide ((hU:Int)=(IntKind.wrap .i64 ((tC:Int)+1)))) (
 bG x2 fun Ck=>
 idx x6 (Ck:Int) fun y1=>
 gS y1 fun x8=>
 bG xs fun VV=>
 bG ([.s x8]:List MV) fun VW=>
 cU (decide ((VV+VW) *16≤2^46))<|
 some (0,[.list (xs++([.s x8]:List MV))])) (
 some (0,[.list xs]))) fun p1=>
 cU (Nat.beq p1.1 0)<|
 gC p1.2 fun VH Mv=>
 gL VH fun G0=>
 gN Mv<|
 some (.inl [.list G0,.i .i64 (IntKind.wrap .i64 (x4+1))]))) (
 some (.inr (2,[.list xs])))) [.list ([]:List MV),.i .i64 0]) fun p=>
 cU (Nat.beq p.1 2)<|
 gC p.2 fun m14 V4=>
 gL m14 fun V5=>
 gN V4<|
 some (.cN [.list V5,.i .i64 0]))
noncomputable def FY:Nat→List MV→Option MV:=bl 175 (fa vL) FW
theorem FZ:ap Tryz.prog cx FY:=At FX [] [] 66 [62] [] [] [] [] [(12,⟨[1,8,13,33,34,35],[],[],[(0,[(10,.sc (.own 63 9 true))])],[62,63]⟩)] [(7,⟨[1,8,33,34],[],[(10,.sc (.own 63 9 true)),(35,.sc (.k (.i .i64)))],[(2,[(10,.sc (.own 63 9 true))])],[62,63]⟩)] [] Tryz.func175 (by kernel_rfl) (bA (fun _ _=>by kernel_rfl))
noncomputable def mF (w:List MV):Option MV:=
 az .i64 .i64 .i64 .i64 .i64 .i64 .i64 .i64 .i64 .i64 .i64 w fun cG ca dW cZ gZ cL mn fV eA dD bY bK fN cH lD xE dI cb dJ lA=>
 bd (vL (.agg [.list cG]) (.s eA)) fun rA=>
 gT rA fun vs=>
 Mn .i64 vs fun x x1=>
 some (.ey (.cN []) (ar cG ca dW cZ gZ cL mn fV eA dD bY bK fN cH lD x1 dI cb x lA))
noncomputable def wB:Nat→List MV→Option MV:=bl 110 (Sg mF) FY
theorem zi:ap Tryz.prog cx wB:=Ns FZ 0 jv [] [(0,1000000)] 24 [] [] [] [(0,[0,1,2,3,4,5,6,7,8,9,10,11,12,13,14,15,16,17,18,19,20,21,22,23])] [] [] [] [] Tryz.func110 (by kernel_rfl) (by kernel_rfl) (rG fun _=>by kernel_rfl)
noncomputable def vM (b id span:MV):Option MV:=
 gA b fun cs=>
 Nu .i64 cs fun dK L=>
 gI .i64 id fun Nv=>
 gI .i64 span fun I6=>
 bd (fS (.agg [.i .i64 dK,.list L]) (.i .i64 Nv)) fun rA=>
 gT rA fun vs=>
 ON .i64 vs fun x x1=>
 bd (
 a7 (decide (Nv<1)) (
 some [.b true]) (
 a7 (decide (I6<1)) (
 some [.b true]) (
 some [.b (decide ((1000:Int)<I6))]))) fun kc=>
 gC kc fun m4 mQ=>
 gB m4 fun x2=>
 gN mQ<|
 a7 x2 (
 some (.cN [.agg [.i .i64 dK,.list L],.i .i64 1])) (
 a7 x1 (
 some (.cN [.agg [.i .i64 dK,.list L],.i .i64 7])) (
 bG L fun len=>
 a7 (decide ((50:Int)≤(len:Int))) (
 some (.cN [.agg [.i .i64 dK,.list L],.i .i64 9])) (
 both (
 bd (fZ 3 24 [.list L]) fun aX=>
 gF aX fun xs=>
 bd (jD 24 [.fresh xs,.i .i64 x,.fresh ([.agg [.i .i64 Nv,.i .i64 I6,.i .i64 (IntKind.wrap .i64 (dK+I6))]]:List MV)]) fun da=>
 gF da fun G0=>
 some (.cN [.agg [.i .i64 dK,.list G0],.i .i64 0])) (
 bd (fZ 3 24 [.list L]) fun n0=>
 gF n0 fun V5=>
 bd (jD 24 [.fresh V5,.i .i64 x,.fresh ([.agg [.i .i64 Nv,.i .i64 I6,.i .i64 (IntKind.wrap .i64 (dK+I6))]]:List MV)]) fun A9=>
 gF A9 fun xs3=>
 some (.cN [.agg [.i .i64 dK,.list xs3],.i .i64 0])))))
noncomputable def F1:Nat→List MV→Option MV:=bl 176 (Fl vM) wB
theorem F3:ap Tryz.prog cx F1:=At zi [] [] 52 [] [] [] [(8,[0,1,3,4,5,6,7,8,9,10,2,11,12,13,14,0,1,3,4,5,6,7,8,9,10,11,2,12,13,14,2,11])] [(2,⟨[1,2,3,6,8,9],[],[],[(0,[(16,.sc (.k .b))])],[39,48,49]⟩)] [] [] [] Tryz.func176 (by kernel_rfl) (qz (fun _ _ _=>by kernel_rfl))
noncomputable def mG (w:List MV):Option MV:=
 az .i64 .i64 .i64 .i64 .i64 .i64 .i64 .i64 .i64 .i64 .i64 w fun cG ca dW cZ gZ cL mn fV eA dD bY bK fN cH lD xE dI cb dJ lA=>
 bd (vM (.agg [.i .i64 ca,.list dW]) (.i .i64 bK) (.i .i64 fN)) fun rA=>
 gT rA fun vs=>
 gC vs fun Ba ji=>
 gA Ba fun cs=>
 Nu .i64 cs fun dK L=>
 gC ji fun Si rH=>
 gI .i64 Si fun x=>
 gN rH<|
 some (.ey (.cN []) (ar cG dK L cZ gZ cL mn fV eA dD bY bK fN cH lD x dI cb dJ lA))
noncomputable def wC:Nat→List MV→Option MV:=bl 111 (Sg mG) F1
theorem zj:ap Tryz.prog cx wC:=Ns F3 0 jv [] [(0,1000000)] 29 [] [] [] [(0,[0,1,2,3,4,5,6,7,8,9,10,11,12,13,14,15,16,17,18,19,20,21,22,23,24,25,26,27,28])] [] [] [] [] Tryz.func111 (by kernel_rfl) (by kernel_rfl) (rG fun _=>by kernel_rfl)
noncomputable def s9 (b id:MV):Option MV:=
 gA b fun cs=>
 Nu .i64 cs fun dK L=>
 gI .i64 id fun Nv=>
 bd (fS (.agg [.i .i64 dK,.list L]) (.i .i64 Nv)) fun rA=>
 gT rA fun vs=>
 ON .i64 vs fun x x1=>
 a7 (!x1) (
 some (.cN [.agg [.i .i64 dK,.list L],.i .i64 14])) (
 bd (fZ 3 24 [.list L]) fun aX=>
 gF aX fun xs=>
 idx xs x fun y=>
 gA y fun fT=>
 Ci .i64 .i64 .i64 fT fun Id Span c9=>
 idx xs x fun y1=>
 gA y1 fun qK=>
 Ci .i64 .i64 .i64 qK fun Id1 zE FG=>
 some (.cN [.agg [.i .i64 dK,.list (xs.set (Int.toNat x) (.agg [.i .i64 Id1,.i .i64 zE,.i .i64 (IntKind.wrap .i64 (dK+Span))]))],.i .i64 0]))
noncomputable def De:Nat→List MV→Option MV:=bl 177 (fa s9) wC
theorem DJ:ap Tryz.prog cx De:=At zj [] [] 36 [] [] [] [(5,[0,1,2,3,4,5,6,7,8,9,10,11,12,13,14])] [] [] [] [] Tryz.func177 (by kernel_rfl) (bA (fun _ _=>by kernel_rfl))
noncomputable def lF (w:List MV):Option MV:=
 az .i64 .i64 .i64 .i64 .i64 .i64 .i64 .i64 .i64 .i64 .i64 w fun cG ca dW cZ gZ cL mn fV eA dD bY bK fN cH lD xE dI cb dJ lA=>
 bd (s9 (.agg [.i .i64 ca,.list dW]) (.i .i64 bK)) fun rA=>
 gT rA fun vs=>
 gC vs fun Ba ji=>
 gA Ba fun cs=>
 Nu .i64 cs fun dK L=>
 gC ji fun Si rH=>
 gI .i64 Si fun x=>
 gN rH<|
 some (.ey (.cN []) (ar cG dK L cZ gZ cL mn fV eA dD bY bK fN cH lD x dI cb dJ lA))
noncomputable def uH:Nat→List MV→Option MV:=bl 112 (Sg lF) De
theorem xO:ap Tryz.prog cx uH:=Ns DJ 0 jv [] [(0,1000000)] 24 [] [] [] [(0,[0,1,2,3,4,5,6,7,8,9,10,11,12,13,14,15,16,17,18,19,20,21,22,23])] [] [] [] [] Tryz.func112 (by kernel_rfl) (by kernel_rfl) (rG fun _=>by kernel_rfl)
noncomputable def ta (b id:MV):Option MV:=
 gA b fun cs=>
 Nu .i64 cs fun dK L=>
 gI .i64 id fun Nv=>
 bd (fS (.agg [.i .i64 dK,.list L]) (.i .i64 Nv)) fun rA=>
 gT rA fun vs=>
 ON .i64 vs fun x x1=>
 a7 (!x1) (
 some (.cN [.agg [.i .i64 dK,.list L],.i .i64 14])) (
 bd (fZ 3 24 [.list L]) fun aX=>
 gF aX fun xs=>
 bd (oT [.fresh xs,.i .i64 x,.i .i64 (IntKind.wrap .i64 (x+1))]) fun da=>
 gF da fun G0=>
 some (.cN [.agg [.i .i64 dK,.list G0],.i .i64 0]))
noncomputable def Df:Nat→List MV→Option MV:=bl 178 (fa ta) uH
theorem DK:ap Tryz.prog cx Df:=lS xO [] 26 [] [] [] Tryz.func178 (by kernel_rfl) (bA (fun _ _=>by kernel_rfl))
noncomputable def vN (sA owner:MV):Option MV:=
 gA sA fun cs=>
 gC cs fun m jh=>
 gL m fun L=>
 gN jh<|
 gI .i64 owner fun Co=>
 bG L fun len=>
 bd (Loop (fun gh=>
 gC gh fun m1 jH=>
 gL m1 fun gone=>
 Mn .i64 jH fun t x=>
 a7 (decide (x<(len:Int))) (
 idx L x fun y=>
 gA y fun fT=>
 j6 .i64 .i64 fT fun Path Value Version bJ=>
 bd (
 a7 (decide ((0:Int)<Co)) (
 some [.b (decide (bJ=Co))]) (
 some [.b false])) fun vs=>
 gC vs fun m8 FH=>
 gB m8 fun x1=>
 gN FH<|
 a7 x1 (
 bG gone fun eN=>
 bG ([.s Path]:List MV) fun hU=>
 cU (decide ((eN+hU) *16≤2^46))<|
 some (.inl [.list (gone++([.s Path]:List MV)),.list t,.i .i64 (IntKind.wrap .i64 (x+1))])) (
 bG t fun tC=>
 bG ([.agg (ml Path Value Version bJ)]:List MV) fun Ck=>
 cU (decide ((tC+Ck) *48≤2^46))<|
 some (.inl [.list gone,.list (t++([.agg (ml Path Value Version bJ)]:List MV)),.i .i64 (IntKind.wrap .i64 (x+1))]))) (
 some (.inr (2,[.list gone,.list t])))) [.list ([]:List MV),.list ([]:List MV),.i .i64 0]) fun p=>
 cU (Nat.beq p.1 2)<|
 gC p.2 fun m9 uA=>
 gL m9 fun Wc=>
 gC uA fun R5 uw=>
 gL R5 fun t1=>
 gN uw<|
 some (.cN [.agg [.list t1],.list Wc])
noncomputable def F4:Nat→List MV→Option MV:=bl 228 (fa vN) Df
theorem F5:ap Tryz.prog cx F4:=At DK [] [] 40 [29,34] [] [] [] [(6,⟨[1,4,6,7,9,12,13,14],[30,35],[],[(0,[(25,.sc (.k .b))])],[29,30,34,35]⟩)] [] [(4,⟨[1,4,12,13],[],[(6,.sc (.own 30 9 true)),(7,.box [.own 35 98 true]),(14,.sc (.k (.i .i64)))],[(2,[(6,.sc (.own 30 9 true)),(7,.box [.own 35 98 true])])],[29,30,34,35]⟩)] [] Tryz.func228 (by kernel_rfl) (bA (fun _ _=>by kernel_rfl))
noncomputable def j9 (w:List MV) (id:MV):Option MV:=
 gI .i64 id fun Nv=>
 az .i64 .i64 .i64 .i64 .i64 .i64 .i64 .i64 .i64 .i64 .i64 w fun cG ca dW cZ gZ cL mn fV eA dD bY bK fN cH lD xE dI cb dJ lA=>
 bd (vN (.agg [.list cG]) (.i .i64 Nv)) fun rA=>
 gT rA fun vs=>
 gC vs fun Ba ji=>
 gA Ba fun cs=>
 gC cs fun OR rI=>
 gL OR fun L=>
 gN rI<|
 gC ji fun Sh pD=>
 gL Sh fun x=>
 gN pD<|
 bG x fun len=>
 bd (Loop (fun rH=>
 gC rH fun Si My=>
 gI .i64 Si fun x1=>
 az .i64 .i64 .i64 .i64 .i64 .i64 .i64 .i64 .i64 .i64 .i64 My fun x2 x3 x4 x5 x6 x7 x8 x9 za BN C7 Cj DD DE Ft DF Fu GZ OS xs=>
 a7 (decide (x1<(len:Int))) (
 idx x x1 fun y=>
 gS y fun QD=>
 bG xs fun eN=>
 bG ([.agg [.i .i64 3,.s QD]]:List MV) fun hU=>
 cU (decide ((eN+hU) *24≤2^46))<|
 some (.inl [.i .i64 (IntKind.wrap .i64 (x1+1)),.list x2,.i .i64 x3,.list x4,.list x5,.list x6,.i .i64 x7,.i .i64 x8,.i .i64 x9,.s za,.s BN,.i .i64 C7,.i .i64 Cj,.i .i64 DD,.i .i64 DE,.i .i64 Ft,.i .i64 DF,.s Fu,.i .i64 GZ,.list OS,.list (xs++([.agg [.i .i64 3,.s QD]]:List MV))])) (
 some (.inr (2,(ar x2 x3 x4 x5 x6 x7 x8 x9 za BN C7 Cj DD DE Ft DF Fu GZ OS xs))))) [.i .i64 0,.list L,.i .i64 ca,.list dW,.list cZ,.list gZ,.i .i64 cL,.i .i64 mn,.i .i64 fV,.s eA,.s dD,.i .i64 bY,.i .i64 bK,.i .i64 fN,.i .i64 cH,.i .i64 lD,.i .i64 xE,.s dI,.i .i64 cb,.list dJ,.list lA]) fun p=>
 cU (Nat.beq p.1 2)<|
 az .i64 .i64 .i64 .i64 .i64 .i64 .i64 .i64 .i64 .i64 .i64 p.2 fun Xu Zm Zn x25 x26 x27 x28 x29 x30 x31 x32 x33 x34 x35 x36 x37 x38 x39 x40 G0=>
 some (.ey (.cN []) (ar Xu Zm Zn x25 x26 x27 x28 x29 x30 x31 x32 x33 x34 x35 x36 x37 x38 x39 x40 G0))
noncomputable def wD:Nat→List MV→Option MV:=bl 179 (cl2 j9) F4
theorem zk:ap Tryz.prog cx wD:=Ns F5 0 jv [] [(0,1000000)] 41 [36] [] [] [] [] [] [(3,⟨[0,23,24],[],[(25,.sc (.k (.i .i64))),(1000000,.box [.k .l,.k (.i .i64),.k .l,.k .l,.k .l,.k (.i .i64),.k (.i .i64),.k (.i .i64),.k .s,.k .s,.k (.i .i64),.k (.i .i64),.k (.i .i64),.k (.i .i64),.k (.i .i64),.k (.i .i64),.k .s,.k (.i .i64),.k .l,.own 2000019 77 false])],[(2,[(1000000,.box [.k .l,.k (.i .i64),.k .l,.k .l,.k .l,.k (.i .i64),.k (.i .i64),.k (.i .i64),.k .s,.k .s,.k (.i .i64),.k (.i .i64),.k (.i .i64),.k (.i .i64),.k (.i .i64),.k (.i .i64),.k .s,.k (.i .i64),.k .l,.own 2000019 77 false])])],[36]⟩)] [] Tryz.func179 (by kernel_rfl) (by kernel_rfl) (VT fun _ _=>by kernel_rfl)
noncomputable def lG (w:List MV):Option MV:=
 az .i64 .i64 .i64 .i64 .i64 .i64 .i64 .i64 .i64 .i64 .i64 w fun cG ca dW cZ gZ cL mn fV eA dD bY bK fN cH lD xE dI cb dJ lA=>
 bd (ta (.agg [.i .i64 ca,.list dW]) (.i .i64 bK)) fun rA=>
 gT rA fun vs=>
 gC vs fun Ba ji=>
 gA Ba fun cs=>
 Nu .i64 cs fun dK L=>
 gC ji fun Si rH=>
 gI .i64 Si fun x=>
 gN rH<|
 bd (
 a7 (decide (x=0)) (
 bd (j9 (ar cG dK L cZ gZ cL mn fV eA dD bY bK fN cH lD x dI cb dJ lA) (.i .i64 bK)) fun aX=>
 gW aX fun x1 ls=>
 az .i64 .i64 .i64 .i64 .i64 .i64 .i64 .i64 .i64 .i64 .i64 ls fun kX kf oY mr tH mu zF tI rN oZ kg kh tJ mw zG Wb o4 lE o6 Bd=>
 some (0,(ar kX kf oY mr tH mu zF tI rN oZ kg kh tJ mw zG Wb o4 lE o6 Bd))) (
 some (0,(ar cG dK L cZ gZ cL mn fV eA dD bY bK fN cH lD x dI cb dJ lA)))) fun p=>
 cU (Nat.beq p.1 0)<|
 az .i64 .i64 .i64 .i64 .i64 .i64 .i64 .i64 .i64 .i64 .i64 p.2 fun x2 x3 x4 x5 x6 x7 x8 x9 za BN C7 Cj DD DE Ft DF Fu GZ OS xs=>
 some (.ey (.cN []) (ar x2 x3 x4 x5 x6 x7 x8 x9 za BN C7 Cj DD DE Ft DF Fu GZ OS xs))
noncomputable def uI:Nat→List MV→Option MV:=bl 113 (Sg lG) wD
theorem xP:ap Tryz.prog cx uI:=Ns zk 0 jv [] [(0,1000000)] 37 [] [] [] [(0,[0,1,2,3,4,5,6,7,8,9,10,11,12,13,14,15,16,17,18,19,20,21,22,23])] [] [(2,⟨[0],[],[],[(0,[(1000000,.box [.k .l,.k (.i .i64),.k .l,.k .l,.k .l,.k (.i .i64),.k (.i .i64),.k (.i .i64),.k .s,.k .s,.k (.i .i64),.k (.i .i64),.k (.i .i64),.k (.i .i64),.k (.i .i64),.k (.i .i64),.k .s,.k (.i .i64),.k .l,.own 2000019 77 false])])],[]⟩)] [] [] Tryz.func113 (by kernel_rfl) (by kernel_rfl) (rG fun _=>by kernel_rfl)
noncomputable def vO (b now:MV):Option MV:=
 gA b fun cs=>
 Nu .i64 cs fun dK L=>
 gI .i64 now fun Zp=>
 a7 (decide (Zp<dK)) (
 some (.cN [.agg [.i .i64 dK,.list L],.list ([]:List MV),.i .i64 15])) (
 a7 (decide ((1000000000:Int)<Zp)) (
 some (.cN [.agg [.i .i64 dK,.list L],.list ([]:List MV),.i .i64 5])) (
 bG L fun len=>
 bd (Loop (fun jH=>
 gC jH fun m2 pY=>
 gL m2 fun gone=>
 gC pY fun m3 mQ=>
 gI .i64 m3 fun out=>
 Mn .i64 mQ fun z8 x=>
 a7 (decide (x<(len:Int))) (
 idx L x fun y=>
 gA y fun fT=>
 Ci .i64 .i64 .i64 fT fun Id Span c9=>
 a7 (decide (c9≤Zp)) (
 bG gone fun eN=>
 bG ([.i .i64 Id]:List MV) fun hU=>
 cU (decide ((eN+hU) *8≤2^46))<|
 some (.inl [.list (gone++([.i .i64 Id]:List MV)),.i .i64 out,.list z8,.i .i64 (IntKind.wrap .i64 (x+1))])) (
 bG z8 fun tC=>
 bG ([.agg [.i .i64 Id,.i .i64 Span,.i .i64 c9]]:List MV) fun Ck=>
 cU (decide ((tC+Ck) *24≤2^46))<|
 some (.inl [.list gone,.i .i64 out,.list (z8++([.agg [.i .i64 Id,.i .i64 Span,.i .i64 c9]]:List MV)),.i .i64 (IntKind.wrap .i64 (x+1))]))) (
 some (.inr (3,[.list gone,.i .i64 out,.list z8])))) [.list ([]:List MV),.i .i64 Zp,.list ([]:List MV),.i .i64 0]) fun p=>
 cU (Nat.beq p.1 3)<|
 gC p.2 fun m9 uA=>
 gL m9 fun Wc=>
 Nu .i64 uA fun Zj aj1=>
 some (.cN [.agg [.i .i64 Zj,.list aj1],.list Wc,.i .i64 0])))
noncomputable def F6:Nat→List MV→Option MV:=bl 180 (fa vO) uI
theorem F7:ap Tryz.prog cx F6:=At xP [] [] 48 [37,42] [] [] [] [] [] [(8,⟨[1,4,24,25],[],[(7,.sc (.own 38 3 true)),(8,.box [.k (.i .i64),.own 43 126 true]),(26,.sc (.k (.i .i64)))],[(3,[(7,.sc (.own 38 3 true)),(8,.box [.k (.i .i64),.own 43 126 true])])],[37,38,42,43]⟩)] [] Tryz.func180 (by kernel_rfl) (bA (fun _ _=>by kernel_rfl))
noncomputable def mH (w:List MV):Option MV:=
 az .i64 .i64 .i64 .i64 .i64 .i64 .i64 .i64 .i64 .i64 .i64 w fun cG ca dW cZ gZ cL mn fV eA dD bY bK fN cH lD xE dI cb dJ lA=>
 bd (vO (.agg [.i .i64 ca,.list dW]) (.i .i64 fN)) fun rA=>
 gT rA fun vs=>
 gC vs fun Ba ji=>
 gA Ba fun cs=>
 Nu .i64 cs fun dK L=>
 Mn .i64 ji fun x x1=>
 a7 (!decide (x1=0)) (
 some (.ey (.cN []) (ar cG ca dW cZ gZ cL mn fV eA dD bY bK fN cH lD x1 dI cb dJ lA))) (
 bG x fun len=>
 bd (Loop (fun xF=>
 gC xF fun Zl V6=>
 gI .i64 Zl fun x2=>
 az .i64 .i64 .i64 .i64 .i64 .i64 .i64 .i64 .i64 .i64 .i64 V6 fun x3 x4 x5 x6 x7 x8 x9 za BN C7 Cj DD DE Ft DF Fu GZ OS QD xs=>
 a7 (decide (x2<(len:Int))) (
 idx x x2 fun y=>
 gI .i64 y fun Xu=>
 bd (j9 (ar x3 x4 x5 x6 x7 x8 x9 za BN C7 Cj DD DE Ft DF Fu GZ OS QD xs) (.i .i64 Xu)) fun aX=>
 gW aX fun Zm ls=>
 az .i64 .i64 .i64 .i64 .i64 .i64 .i64 .i64 .i64 .i64 .i64 ls fun kX kf oY mr tH mu zF tI rN oZ kg kh tJ mw zG Wb o4 lE o6 Bd=>
 some (.inl [.i .i64 (IntKind.wrap .i64 (x2+1)),.list kX,.i .i64 kf,.list oY,.list mr,.list tH,.i .i64 mu,.i .i64 zF,.i .i64 tI,.s rN,.s oZ,.i .i64 kg,.i .i64 kh,.i .i64 tJ,.i .i64 mw,.i .i64 zG,.i .i64 Wb,.s o4,.i .i64 lE,.list o6,.list Bd])) (
 some (.inr (2,(ar x3 x4 x5 x6 x7 x8 x9 za BN C7 Cj DD DE Ft DF Fu GZ OS QD xs))))) [.i .i64 0,.list cG,.i .i64 dK,.list L,.list cZ,.list gZ,.i .i64 cL,.i .i64 mn,.i .i64 fV,.s eA,.s dD,.i .i64 bY,.i .i64 bK,.i .i64 fN,.i .i64 cH,.i .i64 lD,.i .i64 x1,.s dI,.i .i64 dK,.list dJ,.list lA]) fun p=>
 cU (Nat.beq p.1 2)<|
 az .i64 .i64 .i64 .i64 .i64 .i64 .i64 .i64 .i64 .i64 .i64 p.2 fun Zn x25 x26 x27 x28 x29 x30 x31 x32 x33 x34 x35 x36 x37 x38 x39 x40 x41 x42 G0=>
 some (.ey (.cN []) (ar Zn x25 x26 x27 x28 x29 x30 x31 x32 x33 x34 x35 x36 x37 x38 x39 x40 x41 x42 G0)))
noncomputable def wE:Nat→List MV→Option MV:=bl 114 (Sg mH) F6
theorem zl:ap Tryz.prog cx wE:=Ns F7 0 jv [] [(0,1000000)] 50 [] [33] [(1,[2])] [(0,[0,1,2,3,4,5,6,7,8,9,10,11,12,13,14,15,16,17,18]),(3,[0,1,2,3,4,5,6,7,8,9,10,11,12])] [] [] [(5,⟨[0,40,41],[],[(42,.sc (.k (.i .i64))),(1000000,.box [.k .l,.k (.i .i64),.k .l,.k .l,.k .l,.k (.i .i64),.k (.i .i64),.k (.i .i64),.k .s,.k .s,.k (.i .i64),.k (.i .i64),.k (.i .i64),.k (.i .i64),.k (.i .i64),.k (.i .i64),.k .s,.k (.i .i64),.k .l,.own 2000019 77 false])],[(2,[(1000000,.box [.k .l,.k (.i .i64),.k .l,.k .l,.k .l,.k (.i .i64),.k (.i .i64),.k (.i .i64),.k .s,.k .s,.k (.i .i64),.k (.i .i64),.k (.i .i64),.k (.i .i64),.k (.i .i64),.k (.i .i64),.k .s,.k (.i .i64),.k .l,.own 2000019 77 false])])],[]⟩)] [] Tryz.func114 (by kernel_rfl) (by kernel_rfl) (rG fun _=>by kernel_rfl)
noncomputable def gk (sA v:MV):Option MV:=
 gL sA fun lY=>
 gA v fun cs=>
 zb .i64 cs fun Path Client Kids=>
 bG lY fun len=>
 bd (Loop (fun pY=>
 gC pY fun m3 mQ=>
 gI .i64 m3 fun x=>
 gN mQ<|
 a7 (decide (x<(len:Int))) (
 idx lY x fun y=>
 gA y fun fT=>
 zb .i64 fT fun gD cq IV=>
 a7 ((decide (Path=gD))&&((decide (Client=cq))&&(decide (Kids=IV)))) (
 some (.inr (1,[.i .i64 x]))) (
 some (.inl [.i .i64 (IntKind.wrap .i64 (x+1))]))) (
 some (.inr (2,[])))) [.i .i64 0]) fun p=>
 a7 (Nat.beq p.1 2) (
 gN p.2<|
 some (.i .i64 (-1))) (
 cU (Nat.beq p.1 1)<|
 gC p.2 fun m7 ox=>
 gI .i64 m7 fun x1=>
 gN ox<|
 some (.i .i64 x1))
noncomputable def nL:Nat→List MV→Option MV:=bl 250 (fa gk) wE
theorem rR:ap Tryz.prog cx nL:=At zl [] [] 19 [] [] [] [(4,[0,1,2,3,4,5])] [] [] [(2,⟨[0,3,7],[],[(8,.sc (.k (.i .i64)))],[(1,[(4,.sc (.k (.i .i64)))]),(2,[])],[]⟩)] [] Tryz.func250 (by kernel_rfl) (bA (fun _ _=>by kernel_rfl))
noncomputable def eQ (sA v:MV):Option MV:=
 gL sA fun lY=>
 gA v fun cs=>
 zb .i64 cs fun Path Client Kids=>
 bd (gk (.list lY) (.agg [.s Path,.i .i64 Client,.b Kids])) fun rA=>
 gI .i64 rA fun x=>
 some (.b (decide ((0:Int)≤x)))
noncomputable def lL:Nat→List MV→Option MV:=bl 229 (fa eQ) nL
theorem pJ:ap Tryz.prog cx lL:=lS rR [] 9 [] [] [] Tryz.func229 (by kernel_rfl) (bA (fun _ _=>by kernel_rfl))
noncomputable def yJ (t w:MV):Option MV:=
 gA t fun cs=>
 gC cs fun m jh=>
 gL m fun L=>
 gN jh<|
 gA w fun fT=>
 zb .i64 fT fun Path Client Kids=>
 bd (kW (.s Path)) fun rA=>
 gB rA fun x=>
 a7 (!x) (
 some (.cN [.agg [.list L],.i .i64 13])) (
 a7 (decide (Client<0)) (
 some (.cN [.agg [.list L],.i .i64 1])) (
 bd (eQ (.list L) (.agg [.s Path,.i .i64 Client,.b Kids])) fun aX=>
 gB aX fun x1=>
 a7 x1 (
 some (.cN [.agg [.list L],.i .i64 0])) (
 bG L fun len=>
 a7 (decide ((200:Int)≤(len:Int))) (
 some (.cN [.agg [.list L],.i .i64 9])) (
 both (
 bd (fZ 3 32 [.list L]) fun da=>
 gF da fun xs=>
 bG xs fun eN=>
 bG ([.agg [.s Path,.i .i64 Client,.b Kids]]:List MV) fun hU=>
 cU (decide ((eN+hU) *32≤2^46))<|
 some (.cN [.agg [.list (xs++([.agg [.s Path,.i .i64 Client,.b Kids]]:List MV))],.i .i64 0])) (
 bd (fZ 3 32 [.list L]) fun n0=>
 gF n0 fun G0=>
 bG G0 fun tC=>
 bG ([.agg [.s Path,.i .i64 Client,.b Kids]]:List MV) fun Ck=>
 cU (decide ((tC+Ck) *32≤2^46))<|
 some (.cN [.agg [.list (G0++([.agg [.s Path,.i .i64 Client,.b Kids]]:List MV))],.i .i64 0]))))))
noncomputable def I7:Nat→List MV→Option MV:=bl 181 (fa yJ) lL
theorem HB:ap Tryz.prog cx I7:=At pJ [] [] 36 [33] [] [] [(9,[0,1,3,2,4,5,6,7,8,0,1,3,4,2,5,6,7,8,2,4])] [] [] [] [] Tryz.func181 (by kernel_rfl) (bA (fun _ _=>by kernel_rfl))
noncomputable def lH (w:List MV):Option MV:=
 az .i64 .i64 .i64 .i64 .i64 .i64 .i64 .i64 .i64 .i64 .i64 w fun cG ca dW cZ gZ cL mn fV eA dD bY bK fN cH lD xE dI cb dJ lA=>
 bd (yJ (.agg [.list cZ]) (.agg [.s eA,.i .i64 cL,.b (decide (fV=11))])) fun rA=>
 gT rA fun vs=>
 gC vs fun Ba ji=>
 gA Ba fun cs=>
 gC cs fun OR rI=>
 gL OR fun L=>
 gN rI<|
 gC ji fun Sh pD=>
 gI .i64 Sh fun x=>
 gN pD<|
 some (.ey (.cN []) (ar cG ca dW L gZ cL mn fV eA dD bY bK fN cH lD x dI cb dJ lA))
noncomputable def uJ:Nat→List MV→Option MV:=bl 115 (Sg lH) I7
theorem xQ:ap Tryz.prog cx uJ:=Ns HB 0 jv [] [(0,1000000)] 38 [] [] [] [(0,[0,1,2,3,4,5,6,7,8,9,10,11,12,13,14,15,16,17,18]),(1,[0,1,2,3,4,5,6,7,8,9,10,11,12,13,14,15,16,17,18,19])] [] [] [] [] Tryz.func115 (by kernel_rfl) (by kernel_rfl) (rG fun _=>by kernel_rfl)
noncomputable def vP:Option MV:=
 some (.list ([.func 105 [],.func 106 [],.func 107 [],.func 108 [],.func 109 [],.func 110 [],.func 111 [],.func 112 [],.func 113 [],.func 114 [],.func 115 [],.func 115 []]:List MV))
noncomputable def F8:Nat→List MV→Option MV:=bl 59 (OC vP) uJ
theorem F9:ap Tryz.prog cx F8:=lS xQ [] 2 [] [] [] Tryz.func59 (by kernel_rfl) (A5 (by kernel_rfl))
noncomputable def o7 (c w:MV):Option MV:=
 gA c fun cs=>
 gC cs fun m jh=>
 gI .i64 m fun Kind=>
 gC jh fun m1 gh=>
 gS m1 fun Path=>
 gN gh<|
 gA w fun fT=>
 zb .i64 fT fun gD Client Kids=>
 bd (
 a7 (decide (Kind<1)) (
 some [.b true]) (
 a7 (decide ((3:Int)<Kind)) (
 some [.b true]) (
 bd (kW (.s Path)) fun rA=>
 gB rA fun x=>
 some [.b (!x)]))) fun vs=>
 gC vs fun m5 nE=>
 gB m5 fun x1=>
 gN nE<|
 a7 x1 (
 some (.b false)) (
 a7 (!Kids) (
 some (.b (decide (Path=gD)))) (
 bd (pH (.s Path)) fun aX=>
 gT aX fun kc=>
 gC kc fun m6 tD=>
 gS m6 fun x2=>
 gC tD fun m7 pX=>
 gI .i64 m7 fun x3=>
 gN pX<|
 bd (
 a7 (decide (x3=0)) (
 a7 (!decide (Kind=2)) (
 some [.b (decide (x2=gD))]) (
 some [.b false])) (
 some [.b false])) fun qu=>
 gC qu fun m8 ox=>
 gB m8 fun x4=>
 gN ox<|
 some (.b x4)))
noncomputable def o8:Nat→List MV→Option MV:=bl 27 (fa o7) F8
theorem Bl:ap Tryz.prog cx o8:=lS F9 [] 48 [(6,⟨[2,3,5,6],[],[],[(0,[(4,.sc (.k .b))])],[]⟩),(1,⟨[2,3],[],[],[(0,[(20,.sc (.k .b))])],[]⟩)] [] [] Tryz.func27 (by kernel_rfl) (bA (fun _ _=>by kernel_rfl))
noncomputable def zH:Ctx:=Y1 o8 [(2,1000002)] 17 [14] [] [] [] [] [(3,⟨[1,2,3,5],[],[],[(0,[(1000002,.box [.own 2000000 79 false])])],[14]⟩)] [] []
noncomputable def nM (w:MV) (c:MV) (c1:List MV):Option MV:=
 gA w fun cs=>
 zb .i64 cs fun Path Client Kids=>
 gP c fun fT=>
 gC fT fun m3 pY=>
 gI .i64 m3 fun Kind=>
 gC pY fun m4 mQ=>
 gS m4 fun gD=>
 gN mQ<|
 gC c1 fun m5 nE=>
 gL m5 fun x=>
 gN nE<|
 bd (o7 (.agg [.i .i64 Kind,.s gD]) (.agg [.s Path,.i .i64 Client,.b Kids])) fun rA=>
 gB rA fun x1=>
 bd (
 a7 x1 (
 bG x fun len=>
 bG ([.agg [.s Path,.i .i64 Client,.b Kids,.i .i64 Kind,.s gD]]:List MV) fun eN=>
 cU (decide ((len+eN) *56≤2^46))<|
 some (0,[.list (x++([.agg [.s Path,.i .i64 Client,.b Kids,.i .i64 Kind,.s gD]]:List MV))])) (
 some (0,[.list x]))) fun p=>
 cU (Nat.beq p.1 0)<|
 gC p.2 fun m6 tD=>
 gL m6 fun xs=>
 gN tD<|
 some (.ey (.b x1) [.list xs])
theorem DL (w:MV) (c:MV) (c1:List MV):HW zH [[.i .i64,.s],[]] 2 Qx Tryz.f118 [w,c,.cell (.func 0 c1)]=nM w c c1:=by kernel_rfl
noncomputable abbrev vQ:List MV→Option MV:=fun ms=>match ms with|[a0,a1,.cell (.func off a2)]=>(match Nat.beq off 0 with|true=>nM a0 a1 a2|false=>none)|_=>none
theorem DM {ms:List MV} {r:MV} (h:vQ ms=some r): ∃c':Ctx,AY cx c'∧c'.g=o8∧Qi c' 118 Tryz.f118 [[.i .i64,.s],[]]=true∧HW c' [[.i .i64,.s],[]] 2 Qx Tryz.f118 ms=some r:=by
 unfold vQ at h
 split at h
 ·rename_i a0 a1 off a2
  cases ho0:Nat.beq off 0 with
  |true=>
   have:=Nat.eq_of_beq_eq_true ho0
   subst this
   exact ⟨zH,⟨rfl,rfl,rfl,rfl,rfl,rfl,rfl,rfl,rfl⟩,rfl,by kernel_rfl,(DL _ _ _).trans h⟩
  |false=>
  rw [ho0] at h
  simp only at h
  cases h
 ·cases h
noncomputable def vR:Nat→List MV→Option MV:=bl 118 vQ o8
theorem Cr:ap Tryz.prog cx vR:=
 Bl.Ns (pos:=2) (ks:=Qx) (b8:=[[.i .i64,.s],[]]) ov VD VL VP xC Kz Tryz.func118 (by kernel_rfl) (fun _=>rfl) DM
noncomputable def Bm:Nat→List MV→Option MV:=vR
theorem vS (x0:MV) (x1:MV) (x2:List MV):Bm 118 [x0,x1,.cell (.func 0 x2)]=nM x0 x1 x2:=by kernel_rfl
noncomputable def vT (t lA:MV):Option MV:=
 gA t fun cs=>
 gC cs fun m jh=>
 gL m fun L=>
 gN jh<|
 gL lA fun Bd=>
 bd (fZ 3 32 [.list L]) fun rA=>
 gF rA fun xs=>
 bG Bd fun len=>
 bd (Loop (fun gh=>
 gC gh fun m1 jH=>
 gL m1 fun left=>
 Mn .i64 jH fun out x=>
 a7 (decide (x<(len:Int))) (
 idx Bd x fun y=>
 gA y fun fT=>
 gC fT fun m4 nE=>
 gI .i64 m4 fun Kind=>
 gC nE fun m5 tD=>
 gS m5 fun Path=>
 gN tD<|
 cU (left.all NG)<|
 bd (lZ (HV Bm 118 [.rp [.i .i64 Kind,.s Path]]) [.list out] left) fun aX=>
 gC aX.2 fun m6 pX=>
 gL m6 fun x1=>
 gN pX<|
 some (.inl [.list aX.1,.list x1,.i .i64 (IntKind.wrap .i64 (x+1))])) (
 some (.inr (2,[.list left,.list out])))) [.list xs,.list ([]:List MV),.i .i64 0]) fun p=>
 cU (Nat.beq p.1 2)<|
 gC p.2 fun m7 ox=>
 gL m7 fun agL=>
 gC ox fun m8 FH=>
 gL m8 fun z8=>
 gN FH<|
 some (.cN [.agg [.list agL],.list z8])
noncomputable def Ae:Nat→List MV→Option MV:=bl 60 (fa vT) vR
theorem Ga:ap Tryz.prog cx Ae:=At Cr [] [] 26 [] [25] [(8,[7])] [(8,[0,1,2,3,4])] [] [] [(4,⟨[4,13,14],[],[(6,.sc (.own 12 75 false)),(7,.box [.own 2000000 79 false]),(15,.sc (.k (.i .i64)))],[(2,[(6,.sc (.own 12 75 false)),(7,.box [.own 2000000 79 false])])],[]⟩)] [] Tryz.func60 (by kernel_rfl) (bA (fun _ _=>by kernel_rfl))
noncomputable def df:Nat→List MV→Option MV:=Ae
theorem pK (x0:List MV):df 105 [.cell (.func 0 x0)]=jJ x0:=by kernel_rfl
theorem qa (x0:List MV):df 106 [.cell (.func 0 x0)]=kA x0:=by kernel_rfl
theorem si (x0:List MV):df 107 [.cell (.func 0 x0)]=nJ x0:=by kernel_rfl
theorem sm (x0:List MV):df 108 [.cell (.func 0 x0)]=nK x0:=by kernel_rfl
theorem qc (x0:List MV):df 109 [.cell (.func 0 x0)]=kC x0:=by kernel_rfl
theorem rS (x0:List MV):df 110 [.cell (.func 0 x0)]=mF x0:=by kernel_rfl
theorem rT (x0:List MV):df 111 [.cell (.func 0 x0)]=mG x0:=by kernel_rfl
theorem qE (x0:List MV):df 112 [.cell (.func 0 x0)]=lF x0:=by kernel_rfl
theorem qF (x0:List MV):df 113 [.cell (.func 0 x0)]=lG x0:=by kernel_rfl
theorem rU (x0:List MV):df 114 [.cell (.func 0 x0)]=mH x0:=by kernel_rfl
theorem qG (x0:List MV):df 115 [.cell (.func 0 x0)]=lH x0:=by kernel_rfl
noncomputable def jx (a a1:MV):Option MV:=
 gA a fun cs=>
 gf .i64 cs fun dZ dB iN ew Seen=>
 gA a1 fun fT=>
 jg .i64 .i64 .i64 .i64 .i64 .i64 fT fun Client Seq Kind Path Value Version Session Span=>
 bd (lC (.agg (cY dZ dB iN ew Seen)) (.agg (dr Client Seq Kind Path Value Version Session Span))) fun rA=>
 gT rA fun vs=>
 gC vs fun VH FF=>
 gA VH fun qK=>
 cF .i64 .i64 .i64 .i64 qK fun cq nW E dC bV Names=>
 gC FF fun Ba ji=>
 gB Ba fun x=>
 gN ji<|
 a7 x (
 some (.cN [.agg (cY dZ dB iN ew Seen),.agg (dM cq nW E dC bV Names),.list ([]:List MV)])) (
 bd (vP) fun aX=>
 gL aX fun x1=>
 idx x1 Kind fun y=>
 gR y fun x2=>
 Ny x2 fun fn cap=>
 gN cap<|
 bd (G3 [105,106,107,108,109,110,111,112,113,114,115] fn fun k=>df k [.cell (.func 0 (ar dZ dB iN ew Seen Client Seq Kind Path Value Version Session Span cq nW E dC bV Names ([]:List MV)))]) fun da=>
 gW da fun x3 ls=>
 az .i64 .i64 .i64 .i64 .i64 .i64 .i64 .i64 .i64 .i64 .i64 ls fun cG ca dW cZ gZ cL mn fV eA dD bY bK fN cH lD xE dI cb dJ lA=>
 bd (vT (.agg [.list cZ]) (.list lA)) fun n0=>
 gT n0 fun kc=>
 gC kc fun m41 MC=>
 gA m41 fun oh=>
 gC oh fun m42 Wd=>
 gL m42 fun L=>
 gN Wd<|
 gC MC fun m43 MA=>
 gL m43 fun x4=>
 gN MA<|
 bd (fZ 6 72 [.list Seen]) fun A9=>
 gF A9 fun xs=>
 bd (jj (.agg (cY dZ dB iN ew Seen)) (.i .i64 Client)) fun K7=>
 gT K7 fun qu=>
 ON .i64 qu fun x5 x6=>
 bd (
 a7 x6 (
 idx xs x5 fun y1=>
 gA y1 fun VX=>
 cF .i64 .i64 .i64 .i64 VX fun Bb VY E1 Cl uu lT=>
 some (0,(ar cG ca dW L (xs.set (Int.toNat x5) (.agg (dM cH lD xE dI cb dJ))) cL mn fV eA dD bY bK fN cH lD xE dI cb dJ lA))) (
 bd (jD 72 [.fresh xs,.i .i64 x5,.fresh ([.agg (dM cH lD xE dI cb dJ)]:List MV)]) fun vA=>
 gF vA fun G0=>
 some (0,(ar cG ca dW L G0 cL mn fV eA dD bY bK fN cH lD xE dI cb dJ lA)))) fun p=>
 cU (Nat.beq p.1 0)<|
 az .i64 .i64 .i64 .i64 .i64 .i64 .i64 .i64 .i64 .i64 .i64 p.2 fun x7 x8 x9 za V5 BN C7 Cj DD DE Ft DF Fu GZ OS QD Xu Zm Zn xs3=>
 both (
 some (.cN [.agg (cY x7 x8 x9 za V5),.agg (dM GZ OS QD Xu Zm Zn),.list x4])) (
 some (.cN [.agg (cY x7 x8 x9 za V5),.agg (dM GZ OS QD Xu Zm Zn),.list x4])))
noncomputable def Dg:Nat→List MV→Option MV:=bl 18 (fa jx) Ae
theorem DN:ap Tryz.prog cx Dg:=At Ga [] [] 103 [] [21] [(2,[7])] [(3,[0,1,2,3,4]),(5,[1,2,5,0,3,4,6]),(6,[0,1,2,3,4,5,6,7,8,9,10,11,12,13,14,15]),(7,[0,1,2,3,4,5,6,7,8,9,10,11,12,13]),(10,[0,1,2,3,4,5,6,7,8,9,10,11]),(11,[0,1,2,3,4,5,6,7,8,9,10,11,12,13,14,15,16]),(12,[0,1,2,3,4,5,6,8,9,7,10,11,0,1,2,3,4,5,6,7,8,9,10,11,9,7])] [] [(10,⟨[4,5,11,12],[],[],[(0,[(26,.box [.k .l,.k (.i .i64),.k .l,.k .l,.own 52 57 false,.k (.i .i64),.k (.i .i64),.k (.i .i64),.k .s,.k .s,.k (.i .i64),.k (.i .i64),.k (.i .i64),.k (.i .i64),.k (.i .i64),.k (.i .i64),.k .s,.k (.i .i64),.k .l,.own 2000019 77 true]),(9,.pt 26 0)])],[89,90,2000019]⟩)] [] [105,106,107,108,109,110,111,112,113,114,115] Tryz.func18 (by kernel_rfl) (bA (fun _ _=>by kernel_rfl))
noncomputable def yK:Option MV:=
 some (.agg [.list ([.agg (ml ([47]:List UInt8) ([]:List UInt8) 0 0)]:List MV)])
noncomputable def I8:Nat→List MV→Option MV:=bl 71 (OC yK) Dg
theorem HC:ap Tryz.prog cx I8:=lS DN [] 4 [] [] [] Tryz.func71 (by kernel_rfl) (A5 (by kernel_rfl))
noncomputable def yL:Option MV:=
 some (.agg [.i .i64 0,.list ([]:List MV)])
noncomputable def I9:Nat→List MV→Option MV:=bl 72 (OC yL) I8
theorem HD:ap Tryz.prog cx I9:=lS HC [] 2 [] [] [] Tryz.func72 (by kernel_rfl) (A5 (by kernel_rfl))
noncomputable def yM:Option MV:=
 bd (yK) fun rA=>
 gA rA fun cs=>
 gC cs fun m jh=>
 gL m fun L=>
 gN jh<|
 bd (yL) fun aX=>
 gA aX fun fT=>
 Nu .i64 fT fun dK L1=>
 some (.agg (cY L dK L1 ([]:List MV) ([]:List MV)))
noncomputable def Ja:Nat→List MV→Option MV:=bl 26 (OC yM) I9
theorem HE:ap Tryz.prog cx Ja:=lS HD [] 4 [] [] [] Tryz.func26 (by kernel_rfl) (A5 (by kernel_rfl))
noncomputable def gV (s1 s2:MV):Option MV:=
 gL s1 fun rL=>
 gL s2 fun wQ=>
 bG rL fun len=>
 bG wQ fun eN=>
 a7 (!decide ((len:Int)=(eN:Int))) (
 some (.b false)) (
 bG rL fun hU=>
 bd (Loop (fun jh=>
 gC jh fun m gh=>
 gI .i64 m fun x=>
 gN gh<|
 a7 (decide (x<(hU:Int))) (
 idx rL x fun y=>
 gA y fun cs=>
 j6 .i64 .i64 cs fun Path Value Version bJ=>
 idx wQ x fun y1=>
 gA y1 fun fT=>
 j6 .i64 .i64 fT fun gD dC bV vB=>
 a7 (!((decide (Path=gD))&&((decide (Value=dC))&&((decide (Version=bV))&&(decide (bJ=vB)))))) (
 some (.inr (1,[.b false]))) (
 some (.inl [.i .i64 (IntKind.wrap .i64 (x+1))]))) (
 some (.inr (2,[])))) [.i .i64 0]) fun p=>
 a7 (Nat.beq p.1 2) (
 gN p.2<|
 some (.b true)) (
 cU (Nat.beq p.1 1)<|
 gC p.2 fun m9 uA=>
 gB m9 fun x1=>
 gN uA<|
 some (.b x1)))
noncomputable def n5:Nat→List MV→Option MV:=bl 139 (fa gV) Ja
theorem sn:ap Tryz.prog cx n5:=At HE [] [] 26 [] [] [] [(6,[0,1,2,3,4,5,6,7,8])] [] [] [(4,⟨[0,1,12],[],[(13,.sc (.k (.i .i64)))],[(1,[(4,.sc (.k .b))]),(2,[])],[]⟩)] [] Tryz.func139 (by kernel_rfl) (bA (fun _ _=>by kernel_rfl))
noncomputable def vU (a b:MV):Option MV:=
 gA a fun cs=>
 gC cs fun m jh=>
 gL m fun L=>
 gN jh<|
 gA b fun fT=>
 gC fT fun m1 gh=>
 gL m1 fun L1=>
 gN gh<|
 bd (gV (.list L) (.list L1)) fun rA=>
 gB rA fun x=>
 some (.b x)
noncomputable def Gb:Nat→List MV→Option MV:=bl 76 (fa vU) n5
theorem Gc:ap Tryz.prog cx Gb:=lS sn [] 10 [] [] [] Tryz.func76 (by kernel_rfl) (bA (fun _ _=>by kernel_rfl))
noncomputable def fe (s1 s2:MV):Option MV:=
 gL s1 fun rL=>
 gL s2 fun wQ=>
 bG rL fun len=>
 bG wQ fun eN=>
 a7 (!decide ((len:Int)=(eN:Int))) (
 some (.b false)) (
 bG rL fun hU=>
 bd (Loop (fun jh=>
 gC jh fun m gh=>
 gI .i64 m fun x=>
 gN gh<|
 a7 (decide (x<(hU:Int))) (
 idx rL x fun y=>
 gA y fun cs=>
 Ci .i64 .i64 .i64 cs fun Id Span c9=>
 idx wQ x fun y1=>
 gA y1 fun fT=>
 Ci .i64 .i64 .i64 fT fun Id1 zE FG=>
 a7 (!((decide (Id=Id1))&&((decide (Span=zE))&&(decide (c9=FG))))) (
 some (.inr (1,[.b false]))) (
 some (.inl [.i .i64 (IntKind.wrap .i64 (x+1))]))) (
 some (.inr (2,[])))) [.i .i64 0]) fun p=>
 a7 (Nat.beq p.1 2) (
 gN p.2<|
 some (.b true)) (
 cU (Nat.beq p.1 1)<|
 gC p.2 fun m7 ox=>
 gB m7 fun x1=>
 gN ox<|
 some (.b x1)))
noncomputable def my:Nat→List MV→Option MV:=bl 140 (fa fe) Gb
theorem qd:ap Tryz.prog cx my:=At Gc [] [] 26 [] [] [] [(6,[0,1,2,3,4,5,6,7,8])] [] [] [(4,⟨[0,1,12],[],[(13,.sc (.k (.i .i64)))],[(1,[(4,.sc (.k .b))]),(2,[])],[]⟩)] [] Tryz.func140 (by kernel_rfl) (bA (fun _ _=>by kernel_rfl))
noncomputable def vV (a b:MV):Option MV:=
 gA a fun cs=>
 Nu .i64 cs fun dK L=>
 gA b fun fT=>
 Nu .i64 fT fun aj2 L1=>
 bd (
 a7 (decide (dK=aj2)) (
 bd (fe (.list L) (.list L1)) fun rA=>
 gB rA fun x=>
 some [.b x]) (
 some [.b false])) fun vs=>
 gC vs fun m4 mQ=>
 gB m4 fun x1=>
 gN mQ<|
 some (.b x1)
noncomputable def Gd:Nat→List MV→Option MV:=bl 77 (fa vV) my
theorem Ge:ap Tryz.prog cx Gd:=lS qd [] 17 [(1,⟨[2,3],[],[],[(0,[(4,.sc (.k .b))])],[]⟩)] [] [] Tryz.func77 (by kernel_rfl) (bA (fun _ _=>by kernel_rfl))
noncomputable def gl (s1 s2:MV):Option MV:=
 gL s1 fun rL=>
 gL s2 fun wQ=>
 bG rL fun len=>
 bG wQ fun eN=>
 a7 (!decide ((len:Int)=(eN:Int))) (
 some (.b false)) (
 bG rL fun hU=>
 bd (Loop (fun jh=>
 gC jh fun m gh=>
 gI .i64 m fun x=>
 gN gh<|
 a7 (decide (x<(hU:Int))) (
 idx rL x fun y=>
 gA y fun cs=>
 zb .i64 cs fun Path Client Kids=>
 idx wQ x fun y1=>
 gA y1 fun fT=>
 zb .i64 fT fun gD cq IV=>
 a7 (!((decide (Path=gD))&&((decide (Client=cq))&&(decide (Kids=IV))))) (
 some (.inr (1,[.b false]))) (
 some (.inl [.i .i64 (IntKind.wrap .i64 (x+1))]))) (
 some (.inr (2,[])))) [.i .i64 0]) fun p=>
 a7 (Nat.beq p.1 2) (
 gN p.2<|
 some (.b true)) (
 cU (Nat.beq p.1 1)<|
 gC p.2 fun m7 ox=>
 gB m7 fun x1=>
 gN ox<|
 some (.b x1)))
noncomputable def nN:Nat→List MV→Option MV:=bl 141 (fa gl) Gd
theorem rV:ap Tryz.prog cx nN:=At Ge [] [] 26 [] [] [] [(6,[0,1,2,3,4,5,6,7,8])] [] [] [(4,⟨[0,1,12],[],[(13,.sc (.k (.i .i64)))],[(1,[(4,.sc (.k .b))]),(2,[])],[]⟩)] [] Tryz.func141 (by kernel_rfl) (bA (fun _ _=>by kernel_rfl))
noncomputable def vW (a b:MV):Option MV:=
 gA a fun cs=>
 gC cs fun m jh=>
 gL m fun L=>
 gN jh<|
 gA b fun fT=>
 gC fT fun m1 gh=>
 gL m1 fun L1=>
 gN gh<|
 bd (gl (.list L) (.list L1)) fun rA=>
 gB rA fun x=>
 some (.b x)
noncomputable def Gf:Nat→List MV→Option MV:=bl 78 (fa vW) nN
theorem Gg:ap Tryz.prog cx Gf:=lS rV [] 10 [] [] [] Tryz.func78 (by kernel_rfl) (bA (fun _ _=>by kernel_rfl))
noncomputable def vX (a b:MV):Option MV:=
 gA a fun cs=>
 cF .i64 .i64 .i64 .i64 cs fun Client Seq E Value Version Names=>
 gA b fun fT=>
 cF .i64 .i64 .i64 .i64 fT fun cq nW E1 dC bV lT=>
 bd (
 a7 (decide (Client=cq)) (
 a7 (decide (Seq=nW)) (
 a7 (decide (E=E1)) (
 a7 (decide (Value=dC)) (
 a7 (decide (Version=bV)) (
 bd (gE (.list Names) (.list lT)) fun rA=>
 gB rA fun x=>
 some [.b x]) (
 some [.b false])) (
 some [.b false])) (
 some [.b false])) (
 some [.b false])) (
 some [.b false])) fun vs=>
 gC vs fun VG xD=>
 gB VG fun x1=>
 gN xD<|
 some (.b x1)
noncomputable def Af:Nat→List MV→Option MV:=bl 80 (fa vX) Gf
theorem Gh:ap Tryz.prog cx Af:=lS Gg [] 45 [(1,⟨[2,3],[],[],[(0,[(4,.sc (.k .b))])],[]⟩)] [] [] Tryz.func80 (by kernel_rfl) (bA (fun _ _=>by kernel_rfl))
noncomputable def ck:Nat→List MV→Option MV:=Af
theorem fg (x0 x1:MV):ck 80 [x0,x1]=vX x0 x1:=by kernel_rfl
noncomputable def bQ (s1 s2 eq:MV):Option MV:=
 gL s1 fun rL=>
 gL s2 fun wQ=>
 gR eq fun eq1=>
 bG rL fun len=>
 bG wQ fun eN=>
 a7 (!decide ((len:Int)=(eN:Int))) (
 some (.b false)) (
 bG rL fun hU=>
 bd (Loop (fun jh=>
 gC jh fun m gh=>
 gI .i64 m fun x=>
 gN gh<|
 a7 (decide (x<(hU:Int))) (
 idx rL x fun y=>
 gA y fun cs=>
 cF .i64 .i64 .i64 .i64 cs fun Client Seq E Value Version Names=>
 idx wQ x fun y1=>
 gA y1 fun fT=>
 cF .i64 .i64 .i64 .i64 fT fun cq nW E1 dC bV lT=>
 Ny eq1 fun fn cap=>
 cU (!gv fn)<|
 bd (ck fn ([.agg (dM Client Seq E Value Version Names),.agg (dM cq nW E1 dC bV lT)]++cap)) fun rA=>
 gB rA fun x1=>
 a7 (!x1) (
 some (.inr (1,[.b false]))) (
 some (.inl [.i .i64 (IntKind.wrap .i64 (x+1))]))) (
 some (.inr (2,[])))) [.i .i64 0]) fun p=>
 a7 (Nat.beq p.1 2) (
 gN p.2<|
 some (.b true)) (
 cU (Nat.beq p.1 1)<|
 gC p.2 fun VH Mv=>
 gB VH fun x2=>
 gN Mv<|
 some (.b x2)))
noncomputable def dN:Nat→List MV→Option MV:=bl 79 (Fl bQ) Af
theorem gu:ap Tryz.prog cx dN:=lS Gh [] 32 [] [] [(4,⟨[1,2,15,16],[],[(17,.sc (.k (.i .i64)))],[(1,[(6,.sc (.k .b))]),(2,[])],[]⟩)] Tryz.func79 (by kernel_rfl) (qz (fun _ _ _=>by kernel_rfl))
noncomputable def mU (a b:MV):Option MV:=
 gA a fun cs=>
 gf .i64 cs fun dZ dB iN ew Seen=>
 gA b fun fT=>
 gf .i64 fT fun qH pL xR tc Dh=>
 bd (
 bd (vU (.agg [.list dZ]) (.agg [.list qH])) fun rA=>
 gB rA fun x=>
 a7 x (
 bd (vV (.agg [.i .i64 dB,.list iN]) (.agg [.i .i64 pL,.list xR])) fun aX=>
 gB aX fun x1=>
 a7 x1 (
 bd (vW (.agg [.list ew]) (.agg [.list tc])) fun da=>
 gB da fun x2=>
 a7 x2 (
 bd (bQ (.list Seen) (.list Dh) (.func 80 [])) fun n0=>
 gB n0 fun x3=>
 some [.b x3]) (
 some [.b false])) (
 some [.b false])) (
 some [.b false])) fun vs=>
 gC vs fun R5 uA=>
 gB R5 fun x4=>
 gN uA<|
 some (.b x4)
noncomputable def Gi:Nat→List MV→Option MV:=bl 34 (fa mU) dN
theorem Gj:ap Tryz.prog cx Gi:=lS gu [] 31 [(1,⟨[2,3],[],[],[(0,[(4,.sc (.k .b))])],[]⟩)] [] [] Tryz.func34 (by kernel_rfl) (bA (fun _ _=>by kernel_rfl))
noncomputable def nj:Option MV:=
 bd (yM) fun rA=>
 gA rA fun cs=>
 gf .i64 cs fun dZ dB iN ew Seen=>
 bd (jx (.agg (cY dZ dB iN ew Seen)) (.agg (dr 1 1 1 ([47,97]:List UInt8) ([120]:List UInt8) 0 0 0))) fun aX=>
 gT aX fun vs=>
 gC vs fun m5 nE=>
 gA m5 fun fT=>
 gf .i64 fT fun qH pL xR tc Dh=>
 gC nE fun VF uw=>
 gA VF fun qK=>
 cF .i64 .i64 .i64 .i64 qK fun Client Seq E Value Version Names=>
 gC uw fun YZ Fv=>
 gL YZ fun x=>
 gN Fv<|
 bd (jx (.agg (cY qH pL xR tc Dh)) (.agg (dr 1 1 1 ([47,97]:List UInt8) ([120]:List UInt8) 0 0 0))) fun da=>
 gT da fun kc=>
 gC kc fun Y0 Fz=>
 gA Y0 fun oh=>
 gf .i64 oh fun td pM xS te Di=>
 gC Fz fun Zl xF=>
 gA Zl fun VX=>
 cF .i64 .i64 .i64 .i64 VX fun cq nW E1 dC bV lT=>
 gC xF fun m32 We=>
 gL m32 fun x1=>
 gN We<|
 bd (oz (.agg (cY td pM xS te Di)) (.i .i64 1)) fun n0=>
 gT n0 fun qu=>
 gC qu fun m33 agN=>
 gA m33 fun cs5=>
 cF .i64 .i64 .i64 .i64 cs5 fun Bb VY E2 Cl uu KA=>
 gC agN fun m40 FJ=>
 gB m40 fun x2=>
 gN FJ<|
 bd (
 a7 (decide (E=0)) (
 a7 (decide (E1=0)) (
 bG qH fun len=>
 a7 (decide ((len:Int)=2)) (
 bd (mU (.agg (cY qH pL xR tc Dh)) (.agg (cY td pM xS te Di))) fun A9=>
 gB A9 fun x3=>
 a7 x3 (
 a7 x2 (
 some [.b (decide (VY=1))]) (
 some [.b false])) (
 some [.b false])) (
 some [.b false])) (
 some [.b false])) (
 some [.b false])) fun Zk=>
 gC Zk fun m41 MC=>
 gB m41 fun x4=>
 gN MC<|
 some (.b x4)
noncomputable def Jb:Nat→List MV→Option MV:=bl 17 (OC nj) Gi
theorem HF:ap Tryz.prog cx Jb:=At Gj [] [] 58 [] [] [] [(2,[1,0,2,3,4,5,6,7,8,9,10,11])] [(5,⟨[2,3,5,6,8,9],[],[],[(0,[(0,.sc (.k .b))])],[]⟩)] [] [] [] Tryz.func17 (by kernel_rfl) (A5 (by kernel_rfl))
noncomputable def tf (a b:MV):Option MV:=
 gL a fun a1=>
 gL b fun b1=>
 bG a1 fun len=>
 bG b1 fun eN=>
 a7 (!decide ((len:Int)=(eN:Int))) (
 some (.b false)) (
 bd (Loop (fun jh=>
 gC jh fun m gh=>
 gI .i64 m fun i=>
 gN gh<|
 bG a1 fun hU=>
 a7 (decide (i<(hU:Int))) (
 idx a1 i fun y=>
 gS y fun x=>
 idx b1 i fun y1=>
 gS y1 fun x1=>
 a7 (!decide (x=x1)) (
 some (.inr (1,[.b false]))) (
 some (.inl [.i .i64 (IntKind.wrap .i64 (i+1))]))) (
 some (.inr (2,[])))) [.i .i64 0]) fun p=>
 a7 (Nat.beq p.1 2) (
 gN p.2<|
 some (.b true)) (
 cU (Nat.beq p.1 1)<|
 gC p.2 fun m1 jH=>
 gB m1 fun x2=>
 gN jH<|
 some (.b x2)))
noncomputable def Dj:Nat→List MV→Option MV:=bl 70 (fa tf) Jb
theorem DO:ap Tryz.prog cx Dj:=At HF [] [] 26 [] [] [] [(6,[0,1,2,3,4,5,6,7,8])] [] [] [(4,⟨[0,1],[],[(5,.sc (.k (.i .i64)))],[(1,[(4,.sc (.k .b))]),(2,[])],[]⟩)] [] Tryz.func70 (by kernel_rfl) (bA (fun _ _=>by kernel_rfl))
noncomputable def Bn (a b:MV):Option MV:=
 gA a fun cs=>
 cF .i64 .i64 .i64 .i64 cs fun Client Seq E Value Version Names=>
 gA b fun fT=>
 cF .i64 .i64 .i64 .i64 fT fun cq nW E1 dC bV lT=>
 bd (
 a7 (decide (Client=cq)) (
 a7 (decide (Seq=nW)) (
 a7 (decide (E=E1)) (
 a7 (decide (Value=dC)) (
 a7 (decide (Version=bV)) (
 bd (tf (.list Names) (.list lT)) fun rA=>
 gB rA fun x=>
 some [.b x]) (
 some [.b false])) (
 some [.b false])) (
 some [.b false])) (
 some [.b false])) (
 some [.b false])) fun vs=>
 gC vs fun VG xD=>
 gB VG fun x1=>
 gN xD<|
 some (.b x1)
noncomputable def MD:Nat→List MV→Option MV:=bl 22 (fa Bn) Dj
theorem KD:ap Tryz.prog cx MD:=lS DO [] 45 [(1,⟨[2,3],[],[],[(0,[(4,.sc (.k .b))])],[]⟩)] [] [] Tryz.func22 (by kernel_rfl) (bA (fun _ _=>by kernel_rfl))
noncomputable def vY (rA lA:MV):Option MV:=
 gA rA fun cs=>
 gf .i64 cs fun dZ dB iN ew Seen=>
 gL lA fun Bd=>
 bG Bd fun len=>
 bd (Loop (fun nE=>
 gC nE fun m5 tD=>
 gL m5 fun aX=>
 gC tD fun m6 pX=>
 gI .i64 m6 fun da=>
 gC pX fun m7 ox=>
 gL m7 fun n0=>
 gC ox fun m8 FH=>
 gL m8 fun A9=>
 gC FH fun m9 uA=>
 gL m9 fun K7=>
 gC uA fun R5 uw=>
 gL R5 fun out=>
 Mn .i64 uw fun events x=>
 a7 (decide (x<(len:Int))) (
 idx Bd x fun y=>
 gA y fun fT=>
 jg .i64 .i64 .i64 .i64 .i64 .i64 fT fun Client Seq Kind Path Value Version Session Span=>
 bd (jx (.agg (cY aX da n0 A9 K7)) (.agg (dr Client Seq Kind Path Value Version Session Span))) fun vA=>
 gT vA fun vs=>
 gC vs fun OR pD=>
 gA OR fun qK=>
 gf .i64 qK fun qH pL xR tc Dh=>
 gC pD fun m27 V7=>
 gA m27 fun oh=>
 cF .i64 .i64 .i64 .i64 oh fun cq nW E dC bV Names=>
 gC V7 fun m34 agO=>
 gL m34 fun x1=>
 gN agO<|
 bG out fun eN=>
 bG ([.agg (dM cq nW E dC bV Names)]:List MV) fun hU=>
 cU (decide ((eN+hU) *72≤2^46))<|
 cU (tk 5 x1)<|
 bG events fun tC=>
 bG x1 fun Ck=>
 cU (decide ((tC+Ck) *56≤2^46))<|
 some (.inl [.list qH,.i .i64 pL,.list xR,.list tc,.list Dh,.list (out++([.agg (dM cq nW E dC bV Names)]:List MV)),.list (events++x1),.i .i64 (IntKind.wrap .i64 (x+1))])) (
 some (.inr (2,[.list aX,.i .i64 da,.list n0,.list A9,.list K7,.list out,.list events])))) [.list dZ,.i .i64 dB,.list iN,.list ew,.list Seen,.list ([]:List MV),.list ([]:List MV),.i .i64 0]) fun p=>
 cU (Nat.beq p.1 2)<|
 gC p.2 fun m35 Fw=>
 gL m35 fun rA7=>
 gC Fw fun m36 Fx=>
 gI .i64 m36 fun rA8=>
 gC Fx fun m37 Bc=>
 gL m37 fun rA9=>
 gC Bc fun m38 FI=>
 gL m38 fun R3=>
 gC FI fun m39 FJ=>
 gL m39 fun R4=>
 gC FJ fun m40 MC=>
 gL m40 fun z8=>
 gC MC fun m41 Wd=>
 gL m41 fun Zq=>
 gN Wd<|
 some (.cN [.agg (cY rA7 rA8 rA9 R3 R4),.list z8,.list Zq])
noncomputable def Gk:Nat→List MV→Option MV:=bl 28 (fa vY) MD
theorem Gl:ap Tryz.prog cx Gk:=At KD [] [] 39 [29] [] [] [] [] [] [(4,⟨[4,14,15],[],[(2,.box [.k .l,.k (.i .i64),.k .l,.k .l,.k .l]),(7,.sc (.own 30 57 true)),(8,.sc (.own 33 79 true)),(16,.sc (.k (.i .i64)))],[(2,[(2,.box [.k .l,.k (.i .i64),.k .l,.k .l,.k .l]),(7,.sc (.own 30 57 true)),(8,.sc (.own 33 79 true))])],[29,30,33]⟩)] [] Tryz.func28 (by kernel_rfl) (bA (fun _ _=>by kernel_rfl))
noncomputable def tL (a a1 a2:MV):Option MV:=
 gA a fun cs=>
 gf .i64 cs fun dZ dB iN ew Seen=>
 gA a1 fun fT=>
 jg .i64 .i64 .i64 .i64 .i64 .i64 fT fun Client Seq Kind Path Value Version Session Span=>
 gL a2 fun Zr=>
 bd (
 bd (D8 (.agg (cY dZ dB iN ew Seen))) fun rA=>
 gB rA fun x=>
 a7 (!x) (
 some [.b true]) (
 bd (uv (.list Zr)) fun aX=>
 gB aX fun x1=>
 a7 (!x1) (
 some [.b true]) (
 bd (uv (.list ([.agg (dr Client Seq Kind Path Value Version Session Span)]:List MV))) fun da=>
 gB da fun x2=>
 a7 (!x2) (
 some [.b true]) (
 bd (uz (.agg (cY dZ dB iN ew Seen))) fun n0=>
 gA n0 fun qK=>
 gf .i64 qK fun qH pL xR tc Dh=>
 bd (ux (.agg (cY qH pL xR tc Dh))) fun A9=>
 gB A9 fun x3=>
 some [.b (!x3)])))) fun vs=>
 gC vs fun YZ Fv=>
 gB YZ fun x4=>
 gN Fv<|
 a7 x4 (
 bd (nj) fun K7=>
 gB K7 fun x5=>
 some (.b x5)) (
 bd (jx (.agg (cY dZ dB iN ew Seen)) (.agg (dr Client Seq Kind Path Value Version Session Span))) fun vA=>
 gT vA fun kc=>
 gC kc fun Y0 Fz=>
 gA Y0 fun oh=>
 gf .i64 oh fun td pM xS te Di=>
 gC Fz fun Zl xF=>
 gA Zl fun VX=>
 cF .i64 .i64 .i64 .i64 VX fun cq nW E dC bV Names=>
 gC xF fun m32 We=>
 gL m32 fun x6=>
 gN We<|
 bd (uz (.agg (cY td pM xS te Di))) fun rA7=>
 gA rA7 fun cs5=>
 gf .i64 cs5 fun Zs Wf acX Zt agP=>
 bd (ux (.agg (cY Zs Wf acX Zt agP))) fun rA8=>
 gB rA8 fun x7=>
 a7 (!x7) (
 some (.b false)) (
 bd (uB (.agg (dr Client Seq Kind Path Value Version Session Span))) fun rA9=>
 gB rA9 fun x8=>
 a7 (!x8) (
 bd (
 bd (nj) fun R3=>
 gB R3 fun x9=>
 a7 x9 (
 a7 (decide (E=1)) (
 bd (mU (.agg (cY td pM xS te Di)) (.agg (cY dZ dB iN ew Seen))) fun R4=>
 gB R4 fun za=>
 some [.b za]) (
 some [.b false])) (
 some [.b false])) fun qu=>
 gC qu fun m38 Bc=>
 gB m38 fun BN=>
 gN Bc<|
 some (.b BN)) (
 bd (oz (.agg (cY td pM xS te Di)) (.i .i64 Client)) fun VA=>
 gT VA fun Zk=>
 gC Zk fun m39 FI=>
 gA m39 fun cs6=>
 cF .i64 .i64 .i64 .i64 cs6 fun Bb VY E1 Cl uu lT=>
 gC FI fun m46 V8=>
 gB m46 fun C7=>
 gN V8<|
 bd (
 a7 (!C7) (
 some [.b true]) (
 some [.b (decide (VY<Seq))])) fun vs4=>
 gC vs4 fun m47 V9=>
 gB m47 fun Cj=>
 gN V9<|
 a7 Cj (
 bd (
 bd (nj) fun YU=>
 gB YU fun DD=>
 a7 DD (
 a7 (decide (E=9)) (
 bd (mU (.agg (cY td pM xS te Di)) (.agg (cY dZ dB iN ew Seen))) fun YV=>
 gB YV fun DE=>
 some [.b DE]) (
 some [.b false])) (
 some [.b false])) fun vs5=>
 gC vs5 fun m48 MB=>
 gB m48 fun Ft=>
 gN MB<|
 some (.b Ft)) (
 bd (Loop (fun agQ=>
 gC agQ fun m49 agR=>
 gI .i64 m49 fun DF=>
 gN agR<|
 bG Zr fun len=>
 a7 (decide (DF<(len:Int))) (
 idx Zr DF fun y=>
 gA y fun cs7=>
 jg .i64 .i64 .i64 .i64 .i64 .i64 cs7 fun Qy ajM V1 gD OO Mp Fy zE=>
 a7 (decide (Qy=Client)) (
 bd (nj) fun YT=>
 gB YT fun Fu=>
 some (.inr (1,[.b Fu]))) (
 some (.inl [.i .i64 (IntKind.wrap .i64 (DF+1))]))) (
 some (.inr (2,[])))) [.i .i64 0]) fun p=>
 a7 (Nat.beq p.1 2) (
 gN p.2<|
 bd (vY (.agg (cY td pM xS te Di)) (.list Zr)) fun OM=>
 gT OM fun vs6=>
 gC vs6 fun m58 Wa=>
 gA m58 fun cs8=>
 gf .i64 cs8 fun QE MF Wg QF aa6=>
 gC Wa fun m64 agS=>
 gL m64 fun GZ=>
 gC agS fun m65 agT=>
 gL m65 fun OS=>
 gN agT<|
 bd (jx (.agg (cY QE MF Wg QF aa6)) (.agg (dr Client Seq Kind Path Value Version Session Span))) fun Ky=>
 gT Ky fun vs7=>
 gC vs7 fun m66 agU=>
 gA m66 fun cs9=>
 gf .i64 cs9 fun Zu Wh acY Zv agV=>
 gC agU fun m72 agW=>
 gA m72 fun aj3=>
 cF .i64 .i64 .i64 .i64 aj3 fun Qz aj4 E2 VZ Mq KA=>
 gC agW fun m79 agX=>
 gL m79 fun QD=>
 gN agX<|
 bd (
 bd (nj) fun YW=>
 gB YW fun Xu=>
 a7 Xu (
 bd (mU (.agg (cY Zu Wh acY Zv agV)) (.agg (cY QE MF Wg QF aa6))) fun YX=>
 gB YX fun Zm=>
 a7 Zm (
 bG QD fun eN=>
 a7 (decide ((eN:Int)=0)) (
 bd (uy (.agg (dM cq nW E dC bV Names))) fun VB=>
 gA VB fun aj5=>
 cF .i64 .i64 .i64 .i64 aj5 fun Zx aj6 E3 V0 Mr OP=>
 bd (uy (.agg (dM Qz aj4 E2 VZ Mq KA))) fun VC=>
 gA VC fun aj7=>
 cF .i64 .i64 .i64 .i64 aj7 fun Zy aj8 E4 acZ Wi ac0=>
 bd (Bn (.agg (dM Zx aj6 E3 V0 Mr OP)) (.agg (dM Zy aj8 E4 acZ Wi ac0))) fun YY=>
 gB YY fun Zn=>
 a7 Zn (
 some [.b (decide (cq=Client))]) (
 some [.b false])) (
 some [.b false])) (
 some [.b false])) (
 some [.b false])) fun vs8=>
 gC vs8 fun m92 agY=>
 gB m92 fun x25=>
 gN agY<|
 some (.b x25)) (
 cU (Nat.beq p.1 1)<|
 gC p.2 fun m93 agZ=>
 gB m93 fun x26=>
 gN agZ<|
 some (.b x26))))))
noncomputable def HG:Nat→List MV→Option MV:=bl 6 (Fl tL) Gk
theorem Bo:ap Tryz.prog cx HG:=At Gl [] [] 146 [29] [] [] [(14,[0,1,2,3,4,5,6,7]),(18,[0,1,2,3,4,5,6,7,8,9,10,11,12,14,13,15,16,17,18,19,20,21,22,23,24,25])] [(18,⟨[4,8,13,16,17,18],[],[],[(0,[(6,.sc (.k .b))])],[29]⟩),(10,⟨[3,7,8],[],[],[(0,[(6,.sc (.k .b))])],[29]⟩),(9,⟨[2,3,4,7,8,10,11],[],[],[(0,[(80,.sc (.k .b))])],[29]⟩),(7,⟨[3,7,8],[],[],[(0,[(6,.sc (.k .b))])],[29]⟩),(1,⟨[2,3,4],[],[],[(0,[(38,.sc (.k .b))])],[29]⟩)] [] [(12,⟨[2,4,7,8],[],[(12,.sc (.k (.i .i64)))],[(1,[(6,.sc (.k .b))]),(2,[])],[29]⟩)] [] Tryz.func6 (by kernel_rfl) (qz (fun _ _ _=>by kernel_rfl))
end Dn.S
