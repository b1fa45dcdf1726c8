import Derived.Test.YtbkodohojpchjaaGreatDoorDnYTab
import Derived.Test.YtbkodohojpchjaaGreatDoorDnC
import Derived.Test.YtbkodohojpchjaaGreatDoorDnD
import Derived.Test.YtbkodohojpchjaaGreatDoorDnYT
import Derived.KernelRfl
import Derived.Test.YtbkodohojpchjaaGreatDoorProg
/-
  The functions, on plain values, and their contracts. Conditions: none.
-/
open Go Dn Go.Proofs
set_option linter.unusedVariables false
set_option linter.unusedSimpArgs false
set_option maxRecDepth 100000
namespace Dn.S
theorem ov:kK Tryz.prog (vY LA):=XR (by kernel_rfl)
theorem Vh:Nw Tryz.prog (vY LA):=Re (by kernel_rfl)
theorem xn:Tryz.prog.follows .mixedOrders=true:=by kernel_rfl
def Oq {R:Type} (k0:IntKind) (l0:List MV) (K:Int→Bool→Option R):Option R:=gC l0 fun m0 l1=>gI k0 m0 fun x0=>gC l1 fun m1 l2=>gB m1 fun x1=>gN l2<|K x0 x1
def L7 {R:Type} (k0 k1:IntKind) (l0:List MV) (K:Int→Int→Option R):Option R:=gC l0 fun m0 l1=>gI k0 m0 fun x0=>gC l1 fun m1 l2=>gI k1 m1 fun x1=>gN l2<|K x0 x1
def B7 {R:Type} (k0 k1 k2:IntKind) (l0:List MV) (K:Int→Int→Int→Option R):Option R:=gC l0 fun m0 l1=>gI k0 m0 fun x0=>gC l1 fun m1 l2=>gI k1 m1 fun x1=>gC l2 fun m2 l3=>gI k2 m2 fun x2=>gN l3<|K x0 x1 x2
def bK {R:Type} (k0 k1 k2 k4:IntKind) (l0:List MV) (K:Int→Int→Int→List UInt8→Int→List MV→Option R):Option R:=gC l0 fun m0 l1=>gI k0 m0 fun x0=>gC l1 fun m1 l2=>gI k1 m1 fun x1=>gC l2 fun m2 l3=>gI k2 m2 fun x2=>gC l3 fun m3 l4=>gS m3 fun x3=>gC l4 fun m4 l5=>gI k4 m4 fun x4=>gC l5 fun m5 l6=>gL m5 fun x5=>gN l6<|K x0 x1 x2 x3 x4 x5
def ka {R:Type} (k0 k1 k2 k5 k6 k7:IntKind) (l0:List MV) (K:Int→Int→Int→List UInt8→List UInt8→Int→Int→Int→Option R):Option R:=gC l0 fun m0 l1=>gI k0 m0 fun x0=>gC l1 fun m1 l2=>gI k1 m1 fun x1=>gC l2 fun m2 l3=>gI k2 m2 fun x2=>gC l3 fun m3 l4=>gS m3 fun x3=>gC l4 fun m4 l5=>gS m4 fun x4=>gC l5 fun m5 l6=>gI k5 m5 fun x5=>gC l6 fun m6 l7=>gI k6 m6 fun x6=>gC l7 fun m7 l8=>gI k7 m7 fun x7=>gN l8<|K x0 x1 x2 x3 x4 x5 x6 x7
def M7 {R:Type} (k0:IntKind) (l0:List MV) (K:Int→List MV→Option R):Option R:=gC l0 fun m0 l1=>gI k0 m0 fun x0=>gC l1 fun m1 l2=>gL m1 fun x1=>gN l2<|K x0 x1
def Vi {R:Type} (l0:List MV) (K:List MV→Bool→Option R):Option R:=gC l0 fun m0 l1=>gL m0 fun x0=>gC l1 fun m1 l2=>gB m1 fun x1=>gN l2<|K x0 x1
def L8 {R:Type} (k1:IntKind) (l0:List MV) (K:List MV→Int→Option R):Option R:=gC l0 fun m0 l1=>gL m0 fun x0=>gC l1 fun m1 l2=>gI k1 m1 fun x1=>gN l2<|K x0 x1
def iK {R:Type} (k1:IntKind) (l0:List MV) (K:List MV→Int→List MV→List MV→List MV→Option R):Option R:=gC l0 fun m0 l1=>gL m0 fun x0=>gC l1 fun m1 l2=>gI k1 m1 fun x1=>gC l2 fun m2 l3=>gL m2 fun x2=>gC l3 fun m3 l4=>gL m3 fun x3=>gC l4 fun m4 l5=>gL m4 fun x4=>gN l5<|K x0 x1 x2 x3 x4
def aA {R:Type} (k1 k5 k6 k7 k10 k11 k12 k13 k14 k15 k17:IntKind) (l0:List MV) (K:List MV→Int→List MV→List MV→List MV→Int→Int→Int→List UInt8→List UInt8→Int→Int→Int→Int→Int→Int→List UInt8→Int→List MV→List MV→Option R):Option R:=gC l0 fun m0 l1=>gL m0 fun x0=>gC l1 fun m1 l2=>gI k1 m1 fun x1=>gC l2 fun m2 l3=>gL m2 fun x2=>gC l3 fun m3 l4=>gL m3 fun x3=>gC l4 fun m4 l5=>gL m4 fun x4=>gC l5 fun m5 l6=>gI k5 m5 fun x5=>gC l6 fun m6 l7=>gI k6 m6 fun x6=>gC l7 fun m7 l8=>gI k7 m7 fun x7=>gC l8 fun m8 l9=>gS m8 fun x8=>gC l9 fun m9 l10=>gS m9 fun x9=>gC l10 fun RF l11=>gI k10 RF fun zo=>gC l11 fun Vj l12=>gI k11 Vj fun BD=>gC l12 fun Yt l13=>gI k12 Yt fun C0=>gC l13 fun Vk l14=>gI k13 Vk fun B8=>gC l14 fun m14 l15=>gI k14 m14 fun Dw=>gC l15 fun m15 l16=>gI k15 m15 fun Dx=>gC l16 fun m16 l17=>gS m16 fun Fq=>gC l17 fun m17 l18=>gI k17 m17 fun Fs=>gC l18 fun Yu l19=>gL Yu fun Ft=>gC l19 fun m19 l20=>gL m19 fun Fu=>gN l20<|K x0 x1 x2 x3 x4 x5 x6 x7 x8 x9 zo BD C0 B8 Dw Dx Fq Fs Ft Fu
def yM {R:Type} (k1:IntKind) (l0:List MV) (K:List UInt8→Int→Bool→Option R):Option R:=gC l0 fun m0 l1=>gS m0 fun x0=>gC l1 fun m1 l2=>gI k1 m1 fun x1=>gC l2 fun m2 l3=>gB m2 fun x2=>gN l3<|K x0 x1 x2
def jX {R:Type} (k2 k3:IntKind) (l0:List MV) (K:List UInt8→List UInt8→Int→Int→Option R):Option R:=gC l0 fun m0 l1=>gS m0 fun x0=>gC l1 fun m1 l2=>gS m1 fun x1=>gC l2 fun m2 l3=>gI k2 m2 fun x2=>gC l3 fun m3 l4=>gI k3 m3 fun x3=>gN l4<|K x0 x1 x2 x3
@[reducible] def eI (x0 : Int) (x1 : Int) (x2 : Int) (x3 : List UInt8) (x4 : Int) (x5 : List MV) : List MV := [.i .i64 x0, .i .i64 x1, .i .i64 x2, .s x3, .i .i64 x4, .list x5]
@[reducible] def c8 (x0 : Int) (x1 : Int) (x2 : Int) (x3 : List UInt8) (x4 : List UInt8) (x5 : Int) (x6 : Int) (x7 : Int) : List MV := [.i .i64 x0, .i .i64 x1, .i .i64 x2, .s x3, .s x4, .i .i64 x5, .i .i64 x6, .i .i64 x7]
@[reducible] def eF (x0 : List MV) (x1 : Int) (x2 : List MV) (x3 : List MV) (x4 : List MV) : List MV := [.list x0, .i .i64 x1, .list x2, .list x3, .list x4]
@[reducible] def qt (x0 : List MV) (x1 : Int) (x2 : List MV) (x3 : List MV) (x4 : List MV) (x5 : Int) : List MV := [.list x0, .i .i64 x1, .list x2, .list x3, .list x4, .i .i64 x5]
@[reducible] def ar (x0 : List MV) (x1 : Int) (x2 : List MV) (x3 : List MV) (x4 : List MV) (x5 : Int) (x6 : Int) (x7 : Int) (x8 : List UInt8) (x9 : List UInt8) (zo : Int) (BD : Int) (C0 : Int) (B8 : Int) (Dw : Int) (Dx : Int) (Fq : List UInt8) (Fs : Int) (Ft : List MV) (Fu : List MV) : List MV := [.list x0, .i .i64 x1, .list x2, .list x3, .list x4, .i .i64 x5, .i .i64 x6, .i .i64 x7, .s x8, .s x9, .i .i64 zo, .i .i64 BD, .i .i64 C0, .i .i64 B8, .i .i64 Dw, .i .i64 Dx, .s Fq, .i .i64 Fs, .list Ft, .list Fu]
@[reducible] def ml (x0 : List UInt8) (x1 : List UInt8) (x2 : Int) (x3 : Int) : List MV := [.s x0, .s x1, .i .i64 x2, .i .i64 x3]
def Qa:List (Nat×qM)→Nat→qM
 |[],_=>default
 |(k,s)::r,t=>bif Nat.beq k t then s else Qa r t
def Vl:List (Nat×List Nat)→Nat→List Nat
 |[],_=>[]
 |(k,s)::r,t=>bif Nat.beq k t then s else Vl r t
def Vm:List (Nat×Nat)→Nat→Nat
 |[],_=>0
 |(k,s)::r,t=>bif Nat.beq k t then s else Vm r t
def kk (n:Nat):Nat:=n
def gv (n:Nat):Bool:=bE [63,218,223,225,227,105,106,107,108,109,110,111,112,113,114,115,118,171,179] n
def frs (n:Nat):Bool:=bE [61,63,116,117,194,218,219,223,225,226,227] n
def aau:List (Nat×Nat):=[(61,57),(63,57),(116,75),(117,75),(194,9),(218,98),(219,98),(223,98),(225,126),(226,126),(227,126)]
def Qb:List (Nat×FloatKind)→Nat→Option FloatKind
 |[],_=>none
 |(k,s)::r,t=>bif Nat.beq k t then some s else Qb r t
def Vn:List (Nat×FloatKind):=[]
theorem Vo: ∀t k,Qb Vn t=some k→Tryz.prog.underlying t=some (.float k):=by
 intro t k h
 cases h
def Vp:List (Nat×(Nat×Bool)):=[(222,(75,true))]
def Vq:List (Nat×(Nat×List LK))→Nat→Option (Nat×List LK)
 |[],_=>none
 |(k,s)::r,t=>bif Nat.beq k t then some s else Vq r t
abbrev jr:List LK:=[.k (.l),.k (.i .i64),.k (.l),.k (.l),.k (.l),.k (.i .i64),.k (.i .i64),.k (.i .i64),.k (.s),.k (.s),.k (.i .i64),.k (.i .i64),.k (.i .i64),.k (.i .i64),.k (.i .i64),.k (.i .i64),.k (.s),.k (.i .i64),.k (.l),.own 2000019 77 false]
abbrev Qc:List LK:=[.own 2000000 79 false]
def Vr:List (Nat×(Nat×List LK)):=[(105,(0,jr)),(106,(0,jr)),(107,(0,jr)),(108,(0,jr)),(109,(0,jr)),(110,(0,jr)),(111,(0,jr)),(112,(0,jr)),(113,(0,jr)),(114,(0,jr)),(115,(0,jr)),(118,(2,Qc)),(171,(0,jr)),(179,(0,jr))]
def dl (n:Nat):Bool:=bE [117] n
def cx:Ctx:=⟨vY LA,kk,fun _ _=>none,gv,frs,Vm aau,Vq Vr,[],0,[],[],fun _=>[],Qb Vn,ET Vp,fun _=>[],fun _=>default,fun _=>default,fun _=>default,dl,[]⟩
def Yv (g:Nat→List MV→Option MV) (par:List (Nat×Nat)) (n:Nat) (bs fl:List Nat) (fz ord:List (Nat×List Nat)) (KI Jk G4:List (Nat×qM)) (dyn:List Nat):Ctx:=⟨vY LA,kk,g,gv,frs,Vm aau,Vq Vr,par,n,bs,fl,Vl fz,Qb Vn,ET Vp,Vl ord,Qa KI,Qa Jk,Qa G4,dl,dyn⟩
theorem Vs:BS Tryz.prog cx:=N0 (l:=Vp) (by kernel_rfl) (fun _ _ h=>h)
def jD (t:Nat):TI:=match vY LA t with|some I=>I|none=>⟨false,0,0,[],[],[],[],0,[]⟩
theorem tv9:cx.tv 9=some (jD 9):=by kernel_rfl
theorem ab6:cx.tv 22=some (jD 22):=by kernel_rfl
theorem ab7:cx.tv 25=some (jD 25):=by kernel_rfl
theorem ake:cx.tv 28=some (jD 28):=by kernel_rfl
theorem afF:cx.tv 31=some (jD 31):=by kernel_rfl
theorem afG:cx.tv 57=some (jD 57):=by kernel_rfl
theorem akf:cx.tv 75=some (jD 75):=by kernel_rfl
theorem ab8:cx.tv 98=some (jD 98):=by kernel_rfl
theorem Vt:cx.tv 126=some (jD 126):=by kernel_rfl
theorem Yw:JY Tryz.prog cx 117 75:=by
 have hE:cx.tv 75=some (jD 75):=by kernel_rfl
 refine Ys (P:=Tryz.prog) (f:=117) (fi:=182) (t:=28) (ti:=3) (tb:=4) (fu:=191) (el:=75) (fn:=Tryz.f117) (fni:=Tryz.f182) (r:=(fun k=>(([0,1,2,3,4,5,7,8,9,10,6,11,12]:List Nat)[k]?).getD 0)) (ri:=(fun k=>(([0,1,2,3,4,5,6,7]:List Nat)[k]?).getD 0)) (o:=iR Tryz.f117 iS) (oi:=iR Tryz.f182 iS) ⟨Tryz.func117,by kernel_rfl,by kernel_rfl,by kernel_rfl,by kernel_rfl,?_,by kernel_rfl⟩ ⟨Tryz.func182,by kernel_rfl,by kernel_rfl,by kernel_rfl,by kernel_rfl,?_,by kernel_rfl⟩ ov hE (by kernel_rfl) (Nat.le_of_ble_eq_true (by kernel_rfl))
 ·constructor<;>exact ⟨by kernel_rfl,by kernel_rfl,by kernel_rfl⟩
 ·constructor<;>exact ⟨by kernel_rfl,by kernel_rfl,by kernel_rfl⟩
theorem Kk:ve Tryz.prog cx:=by
 intro n hn
 unfold cx dl bE at hn
 cases aav:Nat.beq 117 n with
 |true=>
  have:=Nat.eq_of_beq_eq_true aav
  subst this
  exact Yw
 |false=>
 simp only [aav,cond_false] at hn
 try unfold bE at hn
 cases hn
def C1:Go.Shelf.Ren:=⟨fun|146=>194|221=>233|268=>252|138=>253|143=>254|195=>269|197=>270|218=>271|219=>272|260=>282|217=>283|225=>279|224=>278|267=>284|266=>286|314=>287|n=>n,fun|9=>9|31=>55|3=>3|4=>4|0=>0|105=>349|21=>21|5=>5|46=>226|119=>356|139=>359|138=>358|146=>327|51=>244|n=>n,fun|1=>0|3=>1|4=>2|n=>n⟩
theorem Yx:Go.Proofs.Lays.n146 Tryz.prog C1:={
 mixed:=by kernel_rfl
 f138:=Tryz.func253.trans (congrArg some (by kernel_rfl))
 f143:=Tryz.func254.trans (congrArg some (by kernel_rfl))
 f146:=Tryz.func194.trans (congrArg some (by kernel_rfl))
 f195:=Tryz.func269.trans (congrArg some (by kernel_rfl))
 f197:=Tryz.func270.trans (congrArg some (by kernel_rfl))
 f217:=Tryz.func283.trans (congrArg some (by kernel_rfl))
 f218:=Tryz.func271.trans (congrArg some (by kernel_rfl))
 f219:=Tryz.func272.trans (congrArg some (by kernel_rfl))
 f221:=Tryz.func233.trans (congrArg some (by kernel_rfl))
 f224:=Tryz.func278.trans (congrArg some (by kernel_rfl))
 f225:=Tryz.func279.trans (congrArg some (by kernel_rfl))
 f260:=Tryz.func282.trans (congrArg some (by kernel_rfl))
 f266:=Tryz.func286.trans (congrArg some (by kernel_rfl))
 f267:=Tryz.func284.trans (congrArg some (by kernel_rfl))
 f268:=Tryz.func252.trans (congrArg some (by kernel_rfl))
 f314:=Tryz.func287.trans (congrArg some (by kernel_rfl))
 t0:=Tryz.underlying0
 a0:=Tryz.isAgg0
 z0:=Tryz.sizeOf0
 v0:=Tryz.zeroValue0
 t3:=Tryz.underlying3
 a3:=Tryz.isAgg3
 z3:=Tryz.sizeOf3
 v3:=Tryz.zeroValue3
 t4:=Tryz.underlying4
 a4:=Tryz.isAgg4
 z4:=Tryz.sizeOf4
 v4:=Tryz.zeroValue4
 t5:=Tryz.underlying5
 a5:=Tryz.isAgg5
 z5:=Tryz.sizeOf5
 v5:=Tryz.zeroValue5
 t9:=Tryz.underlying9
 a9:=Tryz.isAgg9
 z9:=Tryz.sizeOf9
 v9:=Tryz.zeroValue9
 t21:=Tryz.underlying21
 a21:=Tryz.isAgg21
 z21:=Tryz.sizeOf21
 v21:=Tryz.zeroValue21
 t31:=Tryz.underlying55
 a31:=Tryz.isAgg55
 z31:=Tryz.sizeOf55
 v31:=Tryz.zeroValue55
 t46:=Tryz.underlying226
 a46:=Tryz.isAgg226
 z46:=Tryz.sizeOf226
 v46:=Tryz.zeroValue226
 t51:=Tryz.underlying244
 a51:=Tryz.isAgg244
 z51:=Tryz.sizeOf244
 v51:=Tryz.zeroValue244
 t105:=Tryz.underlying349
 a105:=Tryz.isAgg349
 z105:=Tryz.sizeOf349
 v105:=Tryz.zeroValue349
 t119:=Tryz.underlying356
 a119:=Tryz.isAgg356
 z119:=Tryz.sizeOf356
 t138:=Tryz.underlying358
 a138:=Tryz.isAgg358
 z138:=Tryz.sizeOf358
 v138:=Tryz.zeroValue358
 t139:=Tryz.underlying359
 a139:=Tryz.isAgg359
 z139:=Tryz.sizeOf359
 v139:=Tryz.zeroValue359
 t146:=Tryz.underlying327
 a146:=Tryz.isAgg327
 z146:=Tryz.sizeOf327
 v146:=Tryz.zeroValue327
 g1:=by kernel_rfl
 g3:=by kernel_rfl
 g4:=by kernel_rfl}
def C2:Go.Shelf.Ren:=⟨fun|160=>235|232=>256|231=>255|227=>257|234=>259|233=>258|236=>261|235=>260|228=>273|271=>274|151=>238|197=>270|120=>285|152=>263|260=>282|137=>276|119=>277|224=>278|225=>279|217=>283|266=>286|n=>n,fun|9=>9|4=>4|3=>3|5=>5|117=>341|116=>340|0=>0|124=>344|21=>21|105=>349|46=>226|119=>356|139=>359|138=>358|n=>n,fun|3=>1|4=>2|n=>n⟩
theorem Yy:Go.Proofs.Lays.n160 Tryz.prog C2:={
 mixed:=by kernel_rfl
 f119:=Tryz.func277.trans (congrArg some (by kernel_rfl))
 f120:=Tryz.func285.trans (congrArg some (by kernel_rfl))
 f137:=Tryz.func276.trans (congrArg some (by kernel_rfl))
 f151:=Tryz.func238.trans (congrArg some (by kernel_rfl))
 f152:=Tryz.func263.trans (congrArg some (by kernel_rfl))
 f160:=Tryz.func235.trans (congrArg some (by kernel_rfl))
 f197:=Tryz.func270.trans (congrArg some (by kernel_rfl))
 f217:=Tryz.func283.trans (congrArg some (by kernel_rfl))
 f224:=Tryz.func278.trans (congrArg some (by kernel_rfl))
 f225:=Tryz.func279.trans (congrArg some (by kernel_rfl))
 f227:=Tryz.func257.trans (congrArg some (by kernel_rfl))
 f228:=Tryz.func273.trans (congrArg some (by kernel_rfl))
 f231:=Tryz.func255.trans (congrArg some (by kernel_rfl))
 f232:=Tryz.func256.trans (congrArg some (by kernel_rfl))
 f233:=Tryz.func258.trans (congrArg some (by kernel_rfl))
 f234:=Tryz.func259.trans (congrArg some (by kernel_rfl))
 f235:=Tryz.func260.trans (congrArg some (by kernel_rfl))
 f236:=Tryz.func261.trans (congrArg some (by kernel_rfl))
 f260:=Tryz.func282.trans (congrArg some (by kernel_rfl))
 f266:=Tryz.func286.trans (congrArg some (by kernel_rfl))
 f271:=Tryz.func274.trans (congrArg some (by kernel_rfl))
 t0:=Tryz.underlying0
 a0:=Tryz.isAgg0
 z0:=Tryz.sizeOf0
 v0:=Tryz.zeroValue0
 t3:=Tryz.underlying3
 a3:=Tryz.isAgg3
 z3:=Tryz.sizeOf3
 v3:=Tryz.zeroValue3
 t4:=Tryz.underlying4
 a4:=Tryz.isAgg4
 z4:=Tryz.sizeOf4
 v4:=Tryz.zeroValue4
 t5:=Tryz.underlying5
 a5:=Tryz.isAgg5
 z5:=Tryz.sizeOf5
 v5:=Tryz.zeroValue5
 t9:=Tryz.underlying9
 a9:=Tryz.isAgg9
 z9:=Tryz.sizeOf9
 v9:=Tryz.zeroValue9
 t21:=Tryz.underlying21
 a21:=Tryz.isAgg21
 z21:=Tryz.sizeOf21
 v21:=Tryz.zeroValue21
 t46:=Tryz.underlying226
 a46:=Tryz.isAgg226
 z46:=Tryz.sizeOf226
 v46:=Tryz.zeroValue226
 t105:=Tryz.underlying349
 a105:=Tryz.isAgg349
 z105:=Tryz.sizeOf349
 v105:=Tryz.zeroValue349
 t116:=Tryz.underlying340
 a116:=Tryz.isAgg340
 z116:=Tryz.sizeOf340
 t117:=Tryz.underlying341
 a117:=Tryz.isAgg341
 z117:=Tryz.sizeOf341
 v117:=Tryz.zeroValue341
 t119:=Tryz.underlying356
 a119:=Tryz.isAgg356
 z119:=Tryz.sizeOf356
 t124:=Tryz.underlying344
 a124:=Tryz.isAgg344
 z124:=Tryz.sizeOf344
 v124:=Tryz.zeroValue344
 t138:=Tryz.underlying358
 a138:=Tryz.isAgg358
 z138:=Tryz.sizeOf358
 v138:=Tryz.zeroValue358
 t139:=Tryz.underlying359
 a139:=Tryz.isAgg359
 z139:=Tryz.sizeOf359
 v139:=Tryz.zeroValue359
 g3:=by kernel_rfl
 g4:=by kernel_rfl}
def C3:Go.Shelf.Ren:=⟨fun|151=>238|152=>263|137=>276|119=>277|224=>278|225=>279|217=>283|266=>286|n=>n,fun|9=>9|21=>21|4=>4|3=>3|5=>5|0=>0|46=>226|n=>n,fun|n=>n⟩
theorem Yz:Go.Proofs.Lays.n151 Tryz.prog C3:={
 mixed:=by kernel_rfl
 f119:=Tryz.func277.trans (congrArg some (by kernel_rfl))
 f137:=Tryz.func276.trans (congrArg some (by kernel_rfl))
 f151:=Tryz.func238.trans (congrArg some (by kernel_rfl))
 f152:=Tryz.func263.trans (congrArg some (by kernel_rfl))
 f217:=Tryz.func283.trans (congrArg some (by kernel_rfl))
 f224:=Tryz.func278.trans (congrArg some (by kernel_rfl))
 f225:=Tryz.func279.trans (congrArg some (by kernel_rfl))
 f266:=Tryz.func286.trans (congrArg some (by kernel_rfl))
 t0:=Tryz.underlying0
 a0:=Tryz.isAgg0
 z0:=Tryz.sizeOf0
 v0:=Tryz.zeroValue0
 t3:=Tryz.underlying3
 a3:=Tryz.isAgg3
 z3:=Tryz.sizeOf3
 v3:=Tryz.zeroValue3
 t4:=Tryz.underlying4
 a4:=Tryz.isAgg4
 z4:=Tryz.sizeOf4
 v4:=Tryz.zeroValue4
 t5:=Tryz.underlying5
 a5:=Tryz.isAgg5
 z5:=Tryz.sizeOf5
 v5:=Tryz.zeroValue5
 t9:=Tryz.underlying9
 a9:=Tryz.isAgg9
 z9:=Tryz.sizeOf9
 v9:=Tryz.zeroValue9
 t21:=Tryz.underlying21
 a21:=Tryz.isAgg21
 z21:=Tryz.sizeOf21
 v21:=Tryz.zeroValue21
 t46:=Tryz.underlying226
 a46:=Tryz.isAgg226
 z46:=Tryz.sizeOf226
 v46:=Tryz.zeroValue226}
theorem YA {g:Nat→List MV→Option MV} (h:aq Tryz.prog cx g):aq Tryz.prog cx (bm 194 xj g):=h.Du (fun _=>rfl) (fun ms r hr=>Vb (P:=Tryz.prog) (ρ:=C1) (c:=cx) Yx (by kernel_rfl) (by kernel_rfl) (by kernel_rfl) tv9 (by kernel_rfl) hr)
theorem YB {g:Nat→List MV→Option MV} (h:aq Tryz.prog cx g):aq Tryz.prog cx (bm 235 Fk g):=h.Du (fun _=>rfl) (fun ms r hr=>Yn (P:=Tryz.prog) (ρ:=C2) (c:=cx) Yy (by kernel_rfl) (by kernel_rfl) hr)
theorem YC {g:Nat→List MV→Option MV} (h:aq Tryz.prog cx g):aq Tryz.prog cx (bm 238 qY g):=h.Du (fun _=>rfl) (fun ms r hr=>Oi (P:=Tryz.prog) (ρ:=C3) (c:=cx) Yz (by kernel_rfl) hr)
theorem ab9 {g:Nat→List MV→Option MV} (h:aq Tryz.prog cx g):aq Tryz.prog cx (bm 61 (fX 6 72) g):=h.Du (fun _=>rfl) (fun ms r hr=>by
 obtain ⟨xs,rfl,rfl,h1,h2⟩:=sI hr
 exact AD (P:=Tryz.prog) (c:=cx) (f:=61) (fn:=Tryz.f61) (t:=31) (I:=jD 31) (E:=jD 57) (i0:=0) (i1:=1) (i2:=2) (i3:=3) (oA:=iR Tryz.f61 iS 0) (oB:=iR Tryz.f61 iS 1) (oC:=iR Tryz.f61 iS 2) (oD:=iR Tryz.f61 iS 3) (oE:=iR Tryz.f61 iS 4) (oF:=iR Tryz.f61 iS 5) (oG:=iR Tryz.f61 iS 6) (oH:=iR Tryz.f61 iS 7) ov afF (by kernel_rfl) afG (Nat.le_of_ble_eq_true (by kernel_rfl)) (by kernel_rfl) (by kernel_rfl) Tryz.func61 (by kernel_rfl) (by kernel_rfl) (by kernel_rfl) (by kernel_rfl)
  ⟨by kernel_rfl,by kernel_rfl,by kernel_rfl⟩ ⟨by kernel_rfl,by kernel_rfl,by kernel_rfl⟩ ⟨by kernel_rfl,by kernel_rfl,by kernel_rfl⟩ ⟨by kernel_rfl,by kernel_rfl,by kernel_rfl⟩ ⟨by kernel_rfl,by kernel_rfl,by kernel_rfl⟩ ⟨by kernel_rfl,by kernel_rfl,by kernel_rfl⟩ ⟨by kernel_rfl,by kernel_rfl,by kernel_rfl⟩ ⟨by kernel_rfl,by kernel_rfl,by kernel_rfl⟩ (by rw [show (jD 57).size=6 by kernel_rfl];exact h1) (by rw [show (jD 57).bytes=72 by kernel_rfl];exact h2))
theorem afH:Ff Tryz.prog 63 31 3 4 57 122 Tryz.f63 (fun k=>k) (iR Tryz.f63 iS) (J4 (iR Tryz.f63 iS)):=by
 refine ⟨Tryz.func63,by kernel_rfl,by kernel_rfl,by kernel_rfl,by kernel_rfl,?_,xn,by kernel_rfl⟩
 constructor<;>first|exact ⟨by kernel_rfl,by kernel_rfl,by kernel_rfl⟩|kernel_rfl
theorem akg: ∀args w,(callFunc 122 args).run Tryz.prog w=((Extern.SlicesOverlaps.overlaps #[31,31] #[4] args).run Tryz.prog w).andThen fun v w'=> .ok (.value v) w':=fun args w=>run_callFunc_extern Tryz.func122 (by kernel_rfl) (by kernel_rfl) (by kernel_rfl) (e:=Extern.SlicesOverlaps.overlaps #[31,31] #[4]) (by kernel_rfl) args w
theorem aca {g:Nat→List MV→Option MV} (h:aq Tryz.prog cx g):aq Tryz.prog cx (bm 63 (jA 72) g):=h.Du (fun _=>rfl) (fun ms r hr=>by
 obtain ⟨xs,ys,i,rfl,rfl,h1,h2,h3⟩:=vg hr
 exact B3 (P:=Tryz.prog) (c:=cx) (I:=jD 31) (E:=jD 57) afH ov afF (by kernel_rfl) afG (Nat.le_of_ble_eq_true (by kernel_rfl)) (by kernel_rfl) (by kernel_rfl) (by kernel_rfl) (by kernel_rfl) akg h1 h2 (by rw [show (jD 57).bytes=72 by kernel_rfl];exact h3))
theorem YD {g:Nat→List MV→Option MV} (h:aq Tryz.prog cx g):aq Tryz.prog cx (bm 116 (fX 3 32) g):=h.Du (fun _=>rfl) (fun ms r hr=>by
 obtain ⟨xs,rfl,rfl,h1,h2⟩:=sI hr
 exact AD (P:=Tryz.prog) (c:=cx) (f:=116) (fn:=Tryz.f116) (t:=28) (I:=jD 28) (E:=jD 75) (i0:=0) (i1:=1) (i2:=2) (i3:=3) (oA:=iR Tryz.f116 iS 0) (oB:=iR Tryz.f116 iS 1) (oC:=iR Tryz.f116 iS 2) (oD:=iR Tryz.f116 iS 3) (oE:=iR Tryz.f116 iS 4) (oF:=iR Tryz.f116 iS 5) (oG:=iR Tryz.f116 iS 6) (oH:=iR Tryz.f116 iS 7) ov ake (by kernel_rfl) akf (Nat.le_of_ble_eq_true (by kernel_rfl)) (by kernel_rfl) (by kernel_rfl) Tryz.func116 (by kernel_rfl) (by kernel_rfl) (by kernel_rfl) (by kernel_rfl)
  ⟨by kernel_rfl,by kernel_rfl,by kernel_rfl⟩ ⟨by kernel_rfl,by kernel_rfl,by kernel_rfl⟩ ⟨by kernel_rfl,by kernel_rfl,by kernel_rfl⟩ ⟨by kernel_rfl,by kernel_rfl,by kernel_rfl⟩ ⟨by kernel_rfl,by kernel_rfl,by kernel_rfl⟩ ⟨by kernel_rfl,by kernel_rfl,by kernel_rfl⟩ ⟨by kernel_rfl,by kernel_rfl,by kernel_rfl⟩ ⟨by kernel_rfl,by kernel_rfl,by kernel_rfl⟩ (by rw [show (jD 75).size=3 by kernel_rfl];exact h1) (by rw [show (jD 75).bytes=32 by kernel_rfl];exact h2))
theorem acb:Ff Tryz.prog 218 22 3 4 98 246 Tryz.f218 (fun k=>k) (iR Tryz.f218 iS) (J4 (iR Tryz.f218 iS)):=by
 refine ⟨Tryz.func218,by kernel_rfl,by kernel_rfl,by kernel_rfl,by kernel_rfl,?_,xn,by kernel_rfl⟩
 constructor<;>first|exact ⟨by kernel_rfl,by kernel_rfl,by kernel_rfl⟩|kernel_rfl
theorem afI: ∀args w,(callFunc 246 args).run Tryz.prog w=((Extern.SlicesOverlaps.overlaps #[22,22] #[4] args).run Tryz.prog w).andThen fun v w'=> .ok (.value v) w':=fun args w=>run_callFunc_extern Tryz.func246 (by kernel_rfl) (by kernel_rfl) (by kernel_rfl) (e:=Extern.SlicesOverlaps.overlaps #[22,22] #[4]) (by kernel_rfl) args w
theorem YE {g:Nat→List MV→Option MV} (h:aq Tryz.prog cx g):aq Tryz.prog cx (bm 218 (jA 48) g):=h.Du (fun _=>rfl) (fun ms r hr=>by
 obtain ⟨xs,ys,i,rfl,rfl,h1,h2,h3⟩:=vg hr
 exact B3 (P:=Tryz.prog) (c:=cx) (I:=jD 22) (E:=jD 98) acb ov ab6 (by kernel_rfl) ab8 (Nat.le_of_ble_eq_true (by kernel_rfl)) (by kernel_rfl) (by kernel_rfl) (by kernel_rfl) (by kernel_rfl) afI h1 h2 (by rw [show (jD 98).bytes=48 by kernel_rfl];exact h3))
theorem YF {g:Nat→List MV→Option MV} (h:aq Tryz.prog cx g):aq Tryz.prog cx (bm 219 (fX 4 48) g):=h.Du (fun _=>rfl) (fun ms r hr=>by
 obtain ⟨xs,rfl,rfl,h1,h2⟩:=sI hr
 exact AD (P:=Tryz.prog) (c:=cx) (f:=219) (fn:=Tryz.f219) (t:=22) (I:=jD 22) (E:=jD 98) (i0:=0) (i1:=1) (i2:=2) (i3:=3) (oA:=iR Tryz.f219 iS 0) (oB:=iR Tryz.f219 iS 1) (oC:=iR Tryz.f219 iS 2) (oD:=iR Tryz.f219 iS 3) (oE:=iR Tryz.f219 iS 4) (oF:=iR Tryz.f219 iS 5) (oG:=iR Tryz.f219 iS 6) (oH:=iR Tryz.f219 iS 7) ov ab6 (by kernel_rfl) ab8 (Nat.le_of_ble_eq_true (by kernel_rfl)) (by kernel_rfl) (by kernel_rfl) Tryz.func219 (by kernel_rfl) (by kernel_rfl) (by kernel_rfl) (by kernel_rfl)
  ⟨by kernel_rfl,by kernel_rfl,by kernel_rfl⟩ ⟨by kernel_rfl,by kernel_rfl,by kernel_rfl⟩ ⟨by kernel_rfl,by kernel_rfl,by kernel_rfl⟩ ⟨by kernel_rfl,by kernel_rfl,by kernel_rfl⟩ ⟨by kernel_rfl,by kernel_rfl,by kernel_rfl⟩ ⟨by kernel_rfl,by kernel_rfl,by kernel_rfl⟩ ⟨by kernel_rfl,by kernel_rfl,by kernel_rfl⟩ ⟨by kernel_rfl,by kernel_rfl,by kernel_rfl⟩ (by rw [show (jD 98).size=4 by kernel_rfl];exact h1) (by rw [show (jD 98).bytes=48 by kernel_rfl];exact h2))
theorem acd:LS Tryz.prog 223 22 3 98 Tryz.f223 (fun k=>k) (iR Tryz.f223 iS):=by
 refine ⟨Tryz.func223,by kernel_rfl,by kernel_rfl,by kernel_rfl,by kernel_rfl,?_,xn,by kernel_rfl⟩
 constructor<;>first|exact ⟨by kernel_rfl,by kernel_rfl,by kernel_rfl⟩|kernel_rfl
theorem YG {g:Nat→List MV→Option MV} (h:aq Tryz.prog cx g):aq Tryz.prog cx (bm 223 oQ g):=h.Du (fun _=>rfl) (fun ms r hr=>by
 obtain ⟨xs,i,j,rfl,rfl,h1,h2⟩:=AJ hr
 exact Iz (P:=Tryz.prog) (c:=cx) (I:=jD 22) (E:=jD 98) acd ov ab6 (by kernel_rfl) ab8 (by kernel_rfl) (by kernel_rfl) (by kernel_rfl) h1 h2)
theorem ace:Ff Tryz.prog 225 25 3 4 126 248 Tryz.f225 (fun k=>k) (iR Tryz.f225 iS) (J4 (iR Tryz.f225 iS)):=by
 refine ⟨Tryz.func225,by kernel_rfl,by kernel_rfl,by kernel_rfl,by kernel_rfl,?_,xn,by kernel_rfl⟩
 constructor<;>first|exact ⟨by kernel_rfl,by kernel_rfl,by kernel_rfl⟩|kernel_rfl
theorem afJ: ∀args w,(callFunc 248 args).run Tryz.prog w=((Extern.SlicesOverlaps.overlaps #[25,25] #[4] args).run Tryz.prog w).andThen fun v w'=> .ok (.value v) w':=fun args w=>run_callFunc_extern Tryz.func248 (by kernel_rfl) (by kernel_rfl) (by kernel_rfl) (e:=Extern.SlicesOverlaps.overlaps #[25,25] #[4]) (by kernel_rfl) args w
theorem YH {g:Nat→List MV→Option MV} (h:aq Tryz.prog cx g):aq Tryz.prog cx (bm 225 (jA 24) g):=h.Du (fun _=>rfl) (fun ms r hr=>by
 obtain ⟨xs,ys,i,rfl,rfl,h1,h2,h3⟩:=vg hr
 exact B3 (P:=Tryz.prog) (c:=cx) (I:=jD 25) (E:=jD 126) ace ov ab7 (by kernel_rfl) Vt (Nat.le_of_ble_eq_true (by kernel_rfl)) (by kernel_rfl) (by kernel_rfl) (by kernel_rfl) (by kernel_rfl) afJ h1 h2 (by rw [show (jD 126).bytes=24 by kernel_rfl];exact h3))
theorem YI {g:Nat→List MV→Option MV} (h:aq Tryz.prog cx g):aq Tryz.prog cx (bm 226 (fX 3 24) g):=h.Du (fun _=>rfl) (fun ms r hr=>by
 obtain ⟨xs,rfl,rfl,h1,h2⟩:=sI hr
 exact AD (P:=Tryz.prog) (c:=cx) (f:=226) (fn:=Tryz.f226) (t:=25) (I:=jD 25) (E:=jD 126) (i0:=0) (i1:=1) (i2:=2) (i3:=3) (oA:=iR Tryz.f226 iS 0) (oB:=iR Tryz.f226 iS 1) (oC:=iR Tryz.f226 iS 2) (oD:=iR Tryz.f226 iS 3) (oE:=iR Tryz.f226 iS 4) (oF:=iR Tryz.f226 iS 5) (oG:=iR Tryz.f226 iS 6) (oH:=iR Tryz.f226 iS 7) ov ab7 (by kernel_rfl) Vt (Nat.le_of_ble_eq_true (by kernel_rfl)) (by kernel_rfl) (by kernel_rfl) Tryz.func226 (by kernel_rfl) (by kernel_rfl) (by kernel_rfl) (by kernel_rfl)
  ⟨by kernel_rfl,by kernel_rfl,by kernel_rfl⟩ ⟨by kernel_rfl,by kernel_rfl,by kernel_rfl⟩ ⟨by kernel_rfl,by kernel_rfl,by kernel_rfl⟩ ⟨by kernel_rfl,by kernel_rfl,by kernel_rfl⟩ ⟨by kernel_rfl,by kernel_rfl,by kernel_rfl⟩ ⟨by kernel_rfl,by kernel_rfl,by kernel_rfl⟩ ⟨by kernel_rfl,by kernel_rfl,by kernel_rfl⟩ ⟨by kernel_rfl,by kernel_rfl,by kernel_rfl⟩ (by rw [show (jD 126).size=3 by kernel_rfl];exact h1) (by rw [show (jD 126).bytes=24 by kernel_rfl];exact h2))
theorem acf:LS Tryz.prog 227 25 3 126 Tryz.f227 (fun k=>k) (iR Tryz.f227 iS):=by
 refine ⟨Tryz.func227,by kernel_rfl,by kernel_rfl,by kernel_rfl,by kernel_rfl,?_,xn,by kernel_rfl⟩
 constructor<;>first|exact ⟨by kernel_rfl,by kernel_rfl,by kernel_rfl⟩|kernel_rfl
theorem YJ {g:Nat→List MV→Option MV} (h:aq Tryz.prog cx g):aq Tryz.prog cx (bm 227 oQ g):=h.Du (fun _=>rfl) (fun ms r hr=>by
 obtain ⟨xs,i,j,rfl,rfl,h1,h2⟩:=AJ hr
 exact Iz (P:=Tryz.prog) (c:=cx) (I:=jD 25) (E:=jD 126) acf ov ab7 (by kernel_rfl) Vt (by kernel_rfl) (by kernel_rfl) (by kernel_rfl) h1 h2)
noncomputable def H61:Nat→List MV→Option MV:=bm 61 (fX 6 72) (fun _ _=>none)
theorem Vu:aq Tryz.prog cx H61:=ab9 (aq.none _ _)
noncomputable def H63:Nat→List MV→Option MV:=bm 63 (jA 72) H61
theorem Vv:aq Tryz.prog cx H63:=aca Vu
noncomputable def afK:Nat→List MV→Option MV:=bm 116 (fX 3 32) H63
theorem RG:aq Tryz.prog cx afK:=YD Vv
noncomputable def afL:Nat→List MV→Option MV:=bm 194 xj afK
theorem RH:aq Tryz.prog cx afL:=YA RG
noncomputable def afM:Nat→List MV→Option MV:=bm 218 (jA 48) afL
theorem RI:aq Tryz.prog cx afM:=YE RH
noncomputable def afN:Nat→List MV→Option MV:=bm 219 (fX 4 48) afM
theorem RJ:aq Tryz.prog cx afN:=YF RI
noncomputable def afO:Nat→List MV→Option MV:=bm 223 oQ afN
theorem RL:aq Tryz.prog cx afO:=YG RJ
noncomputable def afP:Nat→List MV→Option MV:=bm 225 (jA 24) afO
theorem RM:aq Tryz.prog cx afP:=YH RL
noncomputable def afQ:Nat→List MV→Option MV:=bm 226 (fX 3 24) afP
theorem RN:aq Tryz.prog cx afQ:=YI RM
noncomputable def afR:Nat→List MV→Option MV:=bm 227 oQ afQ
theorem RO:aq Tryz.prog cx afR:=YJ RN
noncomputable def afS:Nat→List MV→Option MV:=bm 235 Fk afR
theorem RP:aq Tryz.prog cx afS:=YB RO
noncomputable def afT:Nat→List MV→Option MV:=bm 238 qY afS
theorem RQ:aq Tryz.prog cx afT:=YC RP
theorem AQ {g:Nat→List MV→Option MV} (s:aq Tryz.prog cx g) (b6:List (List Kd)) (par:List (Nat×Nat)) (tn:Nat) (bs fl:List Nat) (fz ord:List (Nat×List Nat)) (KI Jk G4:List (Nat×qM)) (dyn:List Nat) {n:Nat} {fn:Func} {F:List MV→Option MV} (hf:Tryz.prog.funcs[n]? =some fn)
 (hh:LO (Yv g par tn bs fl fz ord KI Jk G4 dyn) n fn b6=true) (hF: ∀{ms r},F ms=some r→HT (Yv g par tn bs fl fz ord KI Jk G4 dyn) b6 none fn ms=some r):aq Tryz.prog cx (bm n F g):=
 s.fn (c':=Yv g par tn bs fl fz ord KI Jk G4 dyn) ⟨rfl,rfl,rfl,rfl,rfl,rfl,rfl,rfl,rfl⟩ rfl ov Vh Vo Vs xn Kk hf hh (fun _=>rfl) hF
theorem lY {g:Nat→List MV→Option MV} (s:aq Tryz.prog cx g) (b6:List (List Kd)) (tn:Nat) (KI Jk G4:List (Nat×qM)) {n:Nat} {fn:Func} {F:List MV→Option MV} (hf:Tryz.prog.funcs[n]? =some fn)
 (hh:LO (Yv g [] tn [] [] [] [] KI Jk G4 []) n fn b6=true) (hF: ∀{ms r},F ms=some r→HT (Yv g [] tn [] [] [] [] KI Jk G4 []) b6 none fn ms=some r):aq Tryz.prog cx (bm n F g):=AQ s b6 [] tn [] [] [] [] KI Jk G4 [] hf hh hF
theorem M6 {g:Nat→List MV→Option MV} (s:aq Tryz.prog cx g) (pos:Nat) (ks:List LK) (b6:List (List Kd)) (par:List (Nat×Nat)) (tn:Nat) (bs fl:List Nat) (fz ord:List (Nat×List Nat)) (KI Jk G4:List (Nat×qM)) (dyn:List Nat) {n:Nat} {fn:Func} {F:List MV→Option MV} (hf:Tryz.prog.funcs[n]? =some fn) (hs:cx.sig n=some (pos,ks))
 (hh:PX (Yv g par tn bs fl fz ord KI Jk G4 dyn) n fn b6=true) (hF: ∀{ms r},F ms=some r→HS (Yv g par tn bs fl fz ord KI Jk G4 dyn) b6 pos ks fn ms=some r):aq Tryz.prog cx (bm n F g):=
 s.M6 ov Vh Vo Vs xn Kk hf hs (fun _=>rfl) fun h=>⟨Yv g par tn bs fl fz ord KI Jk G4 dyn,⟨rfl,rfl,rfl,rfl,rfl,rfl,rfl,rfl,rfl⟩,rfl,hh,hF h⟩
abbrev RR (d:List MV→Option MV):List MV→Option MV:=fun ms=>match ms with|[.cell (.func off a0)]=>(match Nat.beq off 0 with|true=>d a0|false=>none)|_=>none
theorem rr {d:List MV→Option MV} {B:List MV→Option MV} (h: ∀a0,B [.cell (.func 0 a0)]=d a0) {ms:List MV} {r:MV} (e:RR d ms=some r):B ms=some r:=by
 unfold RR at e
 split at e
 ·rename_i off a0
  cases ho:Nat.beq off 0 with
  |true=>
   have:=Nat.eq_of_beq_eq_true ho
   subst this
   exact (h _).trans e
  |false=>rw [ho] at e;cases e
 ·cases e
abbrev cl2 (d:List MV→MV→Option MV):List MV→Option MV:=fun ms=>match ms with|[.cell (.func off a0),a1]=>(match Nat.beq off 0 with|true=>d a0 a1|false=>none)|_=>none
theorem Vw {d:List MV→MV→Option MV} {B:List MV→Option MV} (h: ∀a0 a1,B [.cell (.func 0 a0),a1]=d a0 a1) {ms:List MV} {r:MV} (e:cl2 d ms=some r):B ms=some r:=by
 unfold cl2 at e
 split at e
 ·rename_i off a0 a1
  cases ho:Nat.beq off 0 with
  |true=>
   have:=Nat.eq_of_beq_eq_true ho
   subst this
   exact (h _ _).trans e
  |false=>rw [ho] at e;cases e
 ·cases e
noncomputable def DW (a:MV):Option MV:=
 gA a fun cs=>
 iK .i64 cs fun ei dR jt eG Seen=>
 bd (
 bG ei fun len=>
 a8 (decide ((40:Int)<(len:Int))) (
 some [.b true]) (
 bG eG fun eW=>
 a8 (decide ((40:Int)<(eW:Int))) (
 some [.b true]) (
 bG jt fun gY=>
 a8 (decide ((60:Int)<(gY:Int))) (
 some [.b true]) (
 bG Seen fun ru=>
 a8 (decide ((60:Int)<(ru:Int))) (
 some [.b true]) (
 some [.b (decide ((10000000000:Int)<dR))]))))) fun vs=>
 gC vs fun m5 nF=>
 gB m5 fun x=>
 gN nF<|
 a8 x (
 some (.b false)) (
 bd (Loop (fun tu=>
 gC tu fun m6 pQ=>
 gI .i64 m6 fun x1=>
 gN pQ<|
 bG ei fun zL=>
 a8 (decide (x1<(zL:Int))) (
 bd (
 idx ei x1 fun y=>
 gA y fun fU=>
 jX .i64 .i64 fU fun Path Value Version bI=>
 a8 (decide ((200:Int)<(Path.length:Int))) (
 some [.b true]) (
 idx ei x1 fun y1=>
 gA y1 fun qE=>
 jX .i64 .i64 qE fun gV dS b8 vl=>
 some [.b (decide ((1100:Int)<(dS.length:Int)))])) fun j8=>
 gC j8 fun m15 afU=>
 gB m15 fun x2=>
 gN afU<|
 a8 x2 (
 some (.inr (1,[.b false]))) (
 some (.inl [.i .i64 (IntKind.wrap .i64 (x1+1))]))) (
 some (.inr (2,[])))) [.i .i64 0]) fun p=>
 a8 (Nat.beq p.1 2) (
 gN p.2<|
 bd (Loop (fun Vx=>
 gC Vx fun m16 Fv=>
 gI .i64 m16 fun x3=>
 gN Fv<|
 bG eG fun Ot=>
 a8 (decide (x3<(Ot:Int))) (
 idx eG x3 fun y2=>
 gA y2 fun od=>
 yM .i64 od fun L9 Client Kids=>
 a8 (decide ((200:Int)<(L9.length:Int))) (
 some (.inr (1,[.b false]))) (
 some (.inl [.i .i64 (IntKind.wrap .i64 (x3+1))]))) (
 some (.inr (4,[])))) [.i .i64 0]) fun p3=>
 a8 (Nat.beq p3.1 4) (
 gN p3.2<|
 bd (Loop (fun pv=>
 gC pv fun AR rv=>
 gI .i64 AR fun x4=>
 gN rv<|
 bG Seen fun Vy=>
 a8 (decide (x4<(Vy:Int))) (
 bd (
 idx Seen x4 fun y3=>
 gA y3 fun Vz=>
 bK .i64 .i64 .i64 .i64 Vz fun cG Seq E B9 uk Names=>
 a8 (decide ((1100:Int)<(B9.length:Int))) (
 some [.b true]) (
 idx Seen x4 fun y4=>
 gA y4 fun cs5=>
 bK .i64 .i64 .i64 .i64 cs5 fun AU pR E1 Ou Ma nG=>
 bG nG fun ach=>
 some [.b (decide ((40:Int)<(ach:Int)))])) fun ql=>
 gC ql fun m33 AV=>
 gB m33 fun x5=>
 gN AV<|
 a8 x5 (
 some (.inr (1,[.b false]))) (
 bd (Loop (fun AW=>
 gC AW fun m34 AX=>
 gI .i64 m34 fun x6=>
 gN AX<|
 idx Seen x4 fun y5=>
 gA y5 fun cs6=>
 bK .i64 .i64 .i64 .i64 cs6 fun YK YL E2 aci Mb Ov=>
 bG Ov fun acj=>
 a8 (decide (x6<(acj:Int))) (
 idx Seen x4 fun y6=>
 gA y6 fun cs7=>
 bK .i64 .i64 .i64 .i64 cs7 fun YM akk E3 ack VA VB=>
 idx VB x6 fun y7=>
 gS y7 fun x7=>
 a8 (decide ((200:Int)<(x7.length:Int))) (
 some (.inr (1,[.b false]))) (
 some (.inl [.i .i64 (IntKind.wrap .i64 (x6+1))]))) (
 some (.inr (8,[])))) [.i .i64 0]) fun p7=>
 a8 (Nat.beq p7.1 8) (
 gN p7.2<|
 some (.inl [.i .i64 (IntKind.wrap .i64 (x4+1))])) (
 cR (Nat.beq p7.1 1)<|
 gC p7.2 fun m47 afW=>
 gB m47 fun x8=>
 gN afW<|
 some (.inr (1,[.b x8]))))) (
 some (.inr (6,[])))) [.i .i64 0]) fun p6=>
 a8 (Nat.beq p6.1 6) (
 gN p6.2<|
 some (.b true)) (
 cR (Nat.beq p6.1 1)<|
 gC p6.2 fun m48 afY=>
 gB m48 fun x9=>
 gN afY<|
 some (.b x9))) (
 cR (Nat.beq p3.1 1)<|
 gC p3.2 fun m49 afZ=>
 gB m49 fun zo=>
 gN afZ<|
 some (.b zo))) (
 cR (Nat.beq p.1 1)<|
 gC p.2 fun m50 af0=>
 gB m50 fun BD=>
 gN af0<|
 some (.b BD)))
noncomputable def Qd:Nat→List MV→Option MV:=bm 13 (nv DW) afT
theorem Mc:aq Tryz.prog cx Qd:=lY RQ [] 130 [(16,⟨[1,5],[],[],[(0,[(107,.sc (.k .b))])],[]⟩),(6,⟨[1,3],[],[],[(0,[(65,.sc (.k .b))])],[]⟩),(1,⟨[1],[],[],[(0,[(37,.sc (.k .b))])],[]⟩)] [] [(19,⟨[1,5],[],[(6,.sc (.k (.i .i64)))],[(1,[(2,.sc (.k .b))]),(8,[])],[]⟩),(14,⟨[1],[],[(5,.sc (.k (.i .i64)))],[(1,[(2,.sc (.k .b))]),(6,[])],[]⟩),(9,⟨[1],[],[(4,.sc (.k (.i .i64)))],[(1,[(2,.sc (.k .b))]),(4,[])],[]⟩),(4,⟨[1],[],[(3,.sc (.k (.i .i64)))],[(1,[(2,.sc (.k .b))]),(2,[])],[]⟩)] Tryz.func13 (by kernel_rfl) (dw (fun _=>by kernel_rfl))
noncomputable def yl (lA:MV):Option MV:=
 gL lA fun AY=>
 bd (Loop (fun jm=>
 gC jm fun m gw=>
 gI .i64 m fun i=>
 gN gw<|
 bG AY fun len=>
 a8 (decide (i<(len:Int))) (
 bd (
 a8 (decide (i=30)) (
 some [.b true]) (
 idx AY i fun y=>
 gA y fun cs=>
 ka .i64 .i64 .i64 .i64 .i64 .i64 cs fun Client Seq Kind Path Value Version Session Span=>
 a8 (decide ((200:Int)<(Path.length:Int))) (
 some [.b true]) (
 idx AY i fun y1=>
 gA y1 fun fU=>
 ka .i64 .i64 .i64 .i64 .i64 .i64 fU fun cG pR aaw gV dS b8 Md AZ=>
 some [.b (decide ((1100:Int)<(dS.length:Int)))]))) fun vs=>
 gC vs fun m17 Fv=>
 gB m17 fun x=>
 gN Fv<|
 a8 x (
 some (.inr (1,[.b false]))) (
 some (.inl [.i .i64 (IntKind.wrap .i64 (i+1))]))) (
 some (.inr (2,[])))) [.i .i64 0]) fun p=>
 a8 (Nat.beq p.1 2) (
 gN p.2<|
 some (.b true)) (
 cR (Nat.beq p.1 1)<|
 gC p.2 fun Yu Fw=>
 gB Yu fun x1=>
 gN Fw<|
 some (.b x1))
noncomputable def IG:Nat→List MV→Option MV:=bm 14 (nv yl) Qd
theorem Ho:aq Tryz.prog cx IG:=lY Mc [] 30 [(4,⟨[0,3],[],[],[(0,[(29,.sc (.k .b))])],[]⟩)] [] [(2,⟨[0],[],[(3,.sc (.k (.i .i64)))],[(1,[(2,.sc (.k .b))]),(2,[])],[]⟩)] Tryz.func14 (by kernel_rfl) (dw (fun _=>by kernel_rfl))
noncomputable def A0 (p:MV):Option MV:=
 gS p fun p1=>
 bd (
 a8 (decide ((p1.length:Int)=0)) (
 some [.b true]) (
 cR (decide ((0:Int)≤0∧(0:Int)<(p1.length:Int)))<|
 some [.b (!decide (((p1.getD (Int.toNat 0) 0).toNat:Int)=47))])) fun vs=>
 gC vs fun m jm=>
 gB m fun x=>
 gN jm<|
 a8 x (
 some (.cK [.list ([]:List MV),.b false])) (
 a8 (decide (p1=([47]:List UInt8))) (
 some (.cK [.list ([]:List MV),.b true])) (
 bd (Loop (fun gw=>
 gC gw fun m1 kg=>
 gL m1 fun out=>
 gC kg fun m2 pS=>
 gS m2 fun name=>
 gC pS fun m3 mP=>
 gI .i64 m3 fun i=>
 gN mP<|
 a8 (decide (i<(p1.length:Int))) (
 cR (decide ((0:Int)≤i∧i<(p1.length:Int)))<|
 bd (
 a8 (decide (((p1.getD (Int.toNat i) 0).toNat:Int)=47)) (
 bG out fun len=>
 bG ([.s name]:List MV) fun eW=>
 cR (decide ((len+eW) *16≤2^46))<|
 some (0,[.list (out++([.s name]:List MV)),.s ([]:List UInt8)])) (
 cR (decide ((0:Int)≤i∧i<(p1.length:Int)))<|
 Jq ([.i .u8 ((p1.getD (Int.toNat i) 0).toNat:Int)]:List MV) fun bs=>
 cR (decide (name.length+bs.length≤2^46))<|
 some (0,[.list out,.s (name++bs)]))) fun p3=>
 cR (Nat.beq p3.1 0)<|
 gC p3.2 fun m4 nF=>
 gL m4 fun zM=>
 gC nF fun m5 tu=>
 gS m5 fun af1=>
 gN tu<|
 some (.inl [.list zM,.s af1,.i .i64 (IntKind.wrap .i64 (i+1))])) (
 some (.inr (2,[.list out,.s name])))) [.list ([]:List MV),.s ([]:List UInt8),.i .i64 1]) fun p2=>
 cR (Nat.beq p2.1 2)<|
 gC p2.2 fun m6 pQ=>
 gL m6 fun YN=>
 gC pQ fun m7 ox=>
 gS m7 fun aax=>
 gN ox<|
 bG YN fun gY=>
 bG ([.s aax]:List MV) fun ru=>
 cR (decide ((gY+ru) *16≤2^46))<|
 some (.cK [.list (YN++([.s aax]:List MV)),.b true])))
noncomputable def Qe:Nat→List MV→Option MV:=bm 166 (nv A0) IG
theorem Me:aq Tryz.prog cx Qe:=AQ Ho [] [] 46 [32,43] [] [] [] [(2,⟨[0,4],[7],[],[(0,[(15,.sc (.k .b))])],[7,32,38,43]⟩)] [(11,⟨[0,6],[],[],[(0,[(4,.sc (.own 7 9 true)),(5,.sc (.k .s))])],[7,32,38,43]⟩)] [(8,⟨[0],[],[(4,.sc (.own 7 9 true)),(5,.sc (.k .s)),(6,.sc (.k (.i .i64)))],[(2,[(4,.sc (.own 7 9 true)),(5,.sc (.k .s))])],[7,32,38,43]⟩)] [] Tryz.func166 (by kernel_rfl) (dw (fun _=>by kernel_rfl))
noncomputable def vm (sA:MV):Option MV:=
 gS sA fun lZ=>
 bd (Loop (fun jm=>
 gC jm fun m gw=>
 gI .i64 m fun i=>
 gN gw<|
 a8 (decide (i<(lZ.length:Int))) (
 cR (decide ((0:Int)≤i∧i<(lZ.length:Int)))<|
 bd (
 a8 (decide ((97:Int)≤((lZ.getD (Int.toNat i) 0).toNat:Int))) (
 a8 (decide (((lZ.getD (Int.toNat i) 0).toNat:Int)≤122)) (
 some [.b true]) (
 a8 (decide ((48:Int)≤((lZ.getD (Int.toNat i) 0).toNat:Int))) (
 a8 (decide (((lZ.getD (Int.toNat i) 0).toNat:Int)≤57)) (
 some [.b true]) (
 a8 (decide (((lZ.getD (Int.toNat i) 0).toNat:Int)=45)) (
 some [.b true]) (
 some [.b (decide (((lZ.getD (Int.toNat i) 0).toNat:Int)=95))]))) (
 a8 (decide (((lZ.getD (Int.toNat i) 0).toNat:Int)=45)) (
 some [.b true]) (
 some [.b (decide (((lZ.getD (Int.toNat i) 0).toNat:Int)=95))])))) (
 a8 (decide ((48:Int)≤((lZ.getD (Int.toNat i) 0).toNat:Int))) (
 a8 (decide (((lZ.getD (Int.toNat i) 0).toNat:Int)≤57)) (
 some [.b true]) (
 a8 (decide (((lZ.getD (Int.toNat i) 0).toNat:Int)=45)) (
 some [.b true]) (
 some [.b (decide (((lZ.getD (Int.toNat i) 0).toNat:Int)=95))]))) (
 a8 (decide (((lZ.getD (Int.toNat i) 0).toNat:Int)=45)) (
 some [.b true]) (
 some [.b (decide (((lZ.getD (Int.toNat i) 0).toNat:Int)=95))])))) fun vs=>
 gC vs fun m1 kg=>
 gB m1 fun letter=>
 gN kg<|
 a8 (!letter) (
 some (.inr (1,[.b false]))) (
 some (.inl [.i .i64 (IntKind.wrap .i64 (i+1))]))) (
 some (.inr (2,[])))) [.i .i64 0]) fun p=>
 a8 (Nat.beq p.1 2) (
 gN p.2<|
 bd (
 a8 (decide ((1:Int)≤(lZ.length:Int))) (
 some [.b (decide ((lZ.length:Int)≤30))]) (
 some [.b false])) fun j8=>
 gC j8 fun m2 pS=>
 gB m2 fun x=>
 gN pS<|
 some (.b x)) (
 cR (Nat.beq p.1 1)<|
 gC p.2 fun m3 mP=>
 gB m3 fun x1=>
 gN mP<|
 some (.b x1))
noncomputable def Fx:Nat→List MV→Option MV:=bm 167 (nv vm) Qe
theorem Fy:aq Tryz.prog cx Fx:=lY Me [] 47 [(8,⟨[0],[],[],[(0,[(2,.sc (.k .b))])],[]⟩),(5,⟨[0,3,4],[],[],[(0,[(5,.sc (.k .b))])],[]⟩)] [] [(2,⟨[0],[],[(3,.sc (.k (.i .i64)))],[(1,[(2,.sc (.k .b))]),(2,[])],[]⟩)] Tryz.func167 (by kernel_rfl) (dw (fun _=>by kernel_rfl))
noncomputable def qH (p:MV):Option MV:=
 gS p fun p1=>
 a8 (decide ((100:Int)<(p1.length:Int))) (
 some (.b false)) (
 bd (A0 (.s p1)) fun rA=>
 gT rA fun vs=>
 Vi vs fun x x1=>
 bd (Loop (fun kg=>
 gC kg fun m2 pS=>
 gI .i64 m2 fun i=>
 gN pS<|
 bG x fun len=>
 a8 (decide (i<(len:Int))) (
 idx x i fun y=>
 gS y fun x2=>
 bd (vm (.s x2)) fun aY=>
 gB aY fun x3=>
 a8 (!x3) (
 some (.inr (1,[.b false]))) (
 some (.inl [.i .i64 (IntKind.wrap .i64 (i+1))]))) (
 some (.inr (2,[])))) [.i .i64 0]) fun p2=>
 a8 (Nat.beq p2.1 2) (
 gN p2.2<|
 bd (
 a8 x1 (
 bG x fun eW=>
 some [.b (decide ((eW:Int)≤8))]) (
 some [.b false])) fun j8=>
 gC j8 fun m3 mP=>
 gB m3 fun x4=>
 gN mP<|
 some (.b x4)) (
 cR (Nat.beq p2.1 1)<|
 gC p2.2 fun m4 nF=>
 gB m4 fun x5=>
 gN nF<|
 some (.b x5)))
noncomputable def IH:Nat→List MV→Option MV:=bm 100 (nv qH) Fx
theorem Hp:aq Tryz.prog cx IH:=lY Fy [] 32 [(9,⟨[3,4],[],[],[(0,[(2,.sc (.k .b))])],[]⟩)] [] [(5,⟨[3,4],[],[(5,.sc (.k (.i .i64)))],[(1,[(2,.sc (.k .b))]),(2,[])],[]⟩)] Tryz.func100 (by kernel_rfl) (dw (fun _=>by kernel_rfl))
noncomputable def qI (p:MV):Option MV:=
 gS p fun p1=>
 bd (qH (.s p1)) fun rA=>
 gB rA fun x=>
 a8 (!x) (
 some (.cK [.list ([]:List MV),.i .i64 13])) (
 bd (A0 (.s p1)) fun aY=>
 gT aY fun vs=>
 Vi vs fun x1 x2=>
 some (.cK [.list x1,.i .i64 0]))
noncomputable def II:Nat→List MV→Option MV:=bm 168 (nv qI) IH
theorem Hq:aq Tryz.prog cx II:=lY Hp [] 15 [] [] [] Tryz.func168 (by kernel_rfl) (dw (fun _=>by kernel_rfl))
noncomputable def ym (p q:MV):Option MV:=
 gS p fun p1=>
 gS q fun q1=>
 bd (qI (.s p1)) fun rA=>
 gT rA fun vs=>
 L8 .i64 vs fun x x1=>
 bd (qI (.s q1)) fun aY=>
 gT aY fun j8=>
 L8 .i64 j8 fun x2 x3=>
 bd (
 a8 (!decide (x1=0)) (
 some [.b true]) (
 some [.b (!decide (x3=0))])) fun ql=>
 gC ql fun m4 mP=>
 gB m4 fun x4=>
 gN mP<|
 a8 x4 (
 some (.b false)) (
 bd (Loop (fun nF=>
 gC nF fun m5 tu=>
 gI .i64 m5 fun i=>
 gN tu<|
 bd (
 bG x fun len=>
 a8 (decide (i<(len:Int))) (
 bG x2 fun eW=>
 some [.b (decide (i<(eW:Int)))]) (
 some [.b false])) fun YO=>
 gC YO fun m6 pQ=>
 gB m6 fun x5=>
 gN pQ<|
 a8 x5 (
 idx x i fun y=>
 gS y fun x6=>
 idx x2 i fun y1=>
 gS y1 fun x7=>
 a8 (!decide (x6=x7)) (
 idx x i fun y2=>
 gS y2 fun x8=>
 idx x2 i fun y3=>
 gS y3 fun x9=>
 some (.inr (1,[.b (Op.bytesLess x8 x9)]))) (
 some (.inl [.i .i64 (IntKind.wrap .i64 (i+1))]))) (
 some (.inr (2,[])))) [.i .i64 0]) fun p2=>
 a8 (Nat.beq p2.1 2) (
 gN p2.2<|
 bG x fun gY=>
 bG x2 fun ru=>
 some (.b (decide ((gY:Int)<(ru:Int))))) (
 cR (Nat.beq p2.1 1)<|
 gC p2.2 fun m7 ox=>
 gB m7 fun zo=>
 gN ox<|
 some (.b zo)))
noncomputable def IJ:Nat→List MV→Option MV:=bm 101 (fG ym) II
theorem Hr:aq Tryz.prog cx IJ:=AQ Hq [] [] 61 [] [] [] [(8,[0,1,2,3,4,5,6,7,8]),(9,[0,1,2,3,4,5,6,7,8,9])] [(6,⟨[5,7,9],[],[],[(0,[(35,.sc (.k .b))])],[]⟩),(3,⟨[5,6,7,8],[],[],[(0,[(25,.sc (.k .b))])],[]⟩)] [] [(6,⟨[5,7],[],[(9,.sc (.k (.i .i64)))],[(1,[(4,.sc (.k .b))]),(2,[])],[]⟩)] [] Tryz.func101 (by kernel_rfl) (bD (fun _ _=>by kernel_rfl))
noncomputable def A3 (lA:MV):Option MV:=
 gL lA fun AY=>
 bd (Loop (fun jm=>
 gC jm fun m gw=>
 gS m fun out=>
 gC gw fun m1 kg=>
 gI .i64 m1 fun i=>
 gN kg<|
 bG AY fun len=>
 a8 (decide (i<(len:Int))) (
 cR (decide (out.length+([47]:List UInt8).length≤2^46))<|
 idx AY i fun y=>
 gS y fun x=>
 cR (decide ((out++([47]:List UInt8)).length+x.length≤2^46))<|
 some (.inl [.s ((out++([47]:List UInt8))++x),.i .i64 (IntKind.wrap .i64 (i+1))])) (
 some (.inr (2,[.s out])))) [.s ([]:List UInt8),.i .i64 0]) fun p=>
 cR (Nat.beq p.1 2)<|
 gC p.2 fun m2 pS=>
 gS m2 fun zM=>
 gN pS<|
 a8 (decide (zM=([]:List UInt8))) (
 some (.s ([47]:List UInt8))) (
 some (.s zM))
noncomputable def Mf:Nat→List MV→Option MV:=bm 169 (nv A3) IJ
theorem Kl:aq Tryz.prog cx Mf:=lY Hr [] 21 [] [] [(3,⟨[0],[],[(3,.sc (.k .s)),(4,.sc (.k (.i .i64)))],[(2,[(3,.sc (.k .s))])],[]⟩)] Tryz.func169 (by kernel_rfl) (dw (fun _=>by kernel_rfl))
noncomputable def vn (p:MV):Option MV:=
 gS p fun p1=>
 bd (qI (.s p1)) fun rA=>
 gT rA fun vs=>
 L8 .i64 vs fun x x1=>
 a8 (!decide (x1=0)) (
 some (.cK [.s ([]:List UInt8),.i .i64 x1])) (
 bG x fun len=>
 a8 (decide ((len:Int)=0)) (
 some (.cK [.s ([]:List UInt8),.i .i64 6])) (
 bG x fun eW=>
 bG x fun gY=>
 cR (decide ((0:Int)≤0∧(0:Int)≤(IntKind.wrap .i64 ((eW:Int)-1))∧(IntKind.wrap .i64 ((eW:Int)-1))≤(gY:Int)))<|
 bd (A3 (.list (List.drop (Int.toNat 0) (List.take (Int.toNat (IntKind.wrap .i64 ((eW:Int)-1))) x)))) fun aY=>
 gS aY fun x2=>
 some (.cK [.s x2,.i .i64 0])))
noncomputable def Fz:Nat→List MV→Option MV:=bm 102 (nv vn) Mf
theorem FA:aq Tryz.prog cx Fz:=lY Kl [] 23 [] [] [] Tryz.func102 (by kernel_rfl) (dw (fun _=>by kernel_rfl))
noncomputable def FB (sA p:MV):Option MV:=
 gA sA fun cs=>
 gC cs fun m jm=>
 gL m fun L=>
 gN jm<|
 gS p fun p1=>
 bd (Loop (fun gw=>
 gC gw fun m1 kg=>
 gI .i64 m1 fun i=>
 gN kg<|
 bG L fun len=>
 a8 (decide (i<(len:Int))) (
 idx L i fun y=>
 gA y fun fU=>
 jX .i64 .i64 fU fun Path Value Version bI=>
 a8 (decide (Path=p1)) (
 some (.inr (1,[.i .i64 i]))) (
 some (.inl [.i .i64 (IntKind.wrap .i64 (i+1))]))) (
 some (.inr (2,[])))) [.i .i64 0]) fun p2=>
 a8 (Nat.beq p2.1 2) (
 gN p2.2<|
 some (.i .i64 (-1))) (
 cR (Nat.beq p2.1 1)<|
 gC p2.2 fun m6 pQ=>
 gI .i64 m6 fun x=>
 gN pQ<|
 some (.i .i64 x))
noncomputable def VC:Nat→List MV→Option MV:=bm 103 (fG FB) Fz
theorem Ow:aq Tryz.prog cx VC:=lY FA [] 22 [] [] [(2,⟨[1,2],[],[(5,.sc (.k (.i .i64)))],[(1,[(4,.sc (.k (.i .i64)))]),(2,[])],[]⟩)] Tryz.func103 (by kernel_rfl) (bD (fun _ _=>by kernel_rfl))
noncomputable def yn (a:MV):Option MV:=
 gA a fun cs=>
 gC cs fun m jm=>
 gL m fun L=>
 gN jm<|
 bd (
 bG L fun len=>
 a8 (decide ((len:Int)<1)) (
 some [.b true]) (
 bG L fun eW=>
 some [.b (decide ((200:Int)<(eW:Int)))])) fun vs=>
 gC vs fun m1 gw=>
 gB m1 fun x=>
 gN gw<|
 a8 x (
 some (.b false)) (
 bd (Loop (fun kg=>
 gC kg fun m2 pS=>
 gI .i64 m2 fun x1=>
 gN pS<|
 bG L fun gY=>
 a8 (decide (x1<(gY:Int))) (
 idx L x1 fun y=>
 gA y fun fU=>
 jX .i64 .i64 fU fun Path Value Version bI=>
 bd (
 bd (qH (.s Path)) fun rA=>
 gB rA fun x2=>
 a8 (!x2) (
 some [.b true]) (
 a8 (decide ((1000:Int)<(Value.length:Int))) (
 some [.b true]) (
 a8 (decide (Version<0)) (
 some [.b true]) (
 a8 (decide ((1000000000:Int)<Version)) (
 some [.b true]) (
 a8 (decide (bI<0)) (
 some [.b true]) (
 a8 (decide ((0:Int)<x1)) (
 idx L (IntKind.wrap .i64 (x1-1)) fun y1=>
 gA y1 fun qE=>
 jX .i64 .i64 qE fun gV dS b8 vl=>
 bd (ym (.s gV) (.s Path)) fun aY=>
 gB aY fun x3=>
 some [.b (!x3)]) (
 some [.b false]))))))) fun j8=>
 gC j8 fun Vj A4=>
 gB Vj fun x4=>
 gN A4<|
 a8 x4 (
 some (.inr (1,[.b false]))) (
 bd (vn (.s Path)) fun cX=>
 gT cX fun ql=>
 gC ql fun Yt FC=>
 gS Yt fun x5=>
 gC FC fun Vk Mg=>
 gI .i64 Vk fun x6=>
 gN Mg<|
 a8 (!decide (x6=0)) (
 a8 (!decide (bI=0)) (
 some (.inr (1,[.b false]))) (
 some (.inl [.i .i64 (IntKind.wrap .i64 (x1+1))]))) (
 bd (FB (.agg [.list L]) (.s x5)) fun oo=>
 gI .i64 oo fun x7=>
 bd (
 a8 (decide (x7<0)) (
 some [.b true]) (
 idx L x7 fun y2=>
 gA y2 fun od=>
 jX .i64 .i64 od fun L9 B9 uk VD=>
 some [.b (!decide (VD=0))])) fun YO=>
 gC YO fun Yu Fw=>
 gB Yu fun x8=>
 gN Fw<|
 a8 x8 (
 some (.inr (1,[.b false]))) (
 some (.inl [.i .i64 (IntKind.wrap .i64 (x1+1))]))))) (
 some (.inr (2,[])))) [.i .i64 0]) fun p=>
 a8 (Nat.beq p.1 2) (
 gN p.2<|
 bd (FB (.agg [.list L]) (.s ([47]:List UInt8))) fun AO=>
 gI .i64 AO fun x9=>
 some (.b (decide (x9=0)))) (
 cR (Nat.beq p.1 1)<|
 gC p.2 fun m19 jf=>
 gB m19 fun zo=>
 gN jf<|
 some (.b zo)))
noncomputable def IK:Nat→List MV→Option MV:=bm 55 (nv yn) VC
theorem Hs:aq Tryz.prog cx IK:=AQ Ow [] [] 100 [] [] [] [(7,[0,1,2,3,4,5,6,7,8,9,10,11,12,13,14,15,16,17,18,19,20,21,22,23,24,25,26,27,28,29,30,31,32,33,34,35,36,37,38,39,40,41])] [(14,⟨[1,3,7],[],[],[(0,[(96,.sc (.k .b))])],[]⟩),(7,⟨[1,3,4],[],[],[(0,[(71,.sc (.k .b))])],[]⟩),(1,⟨[1],[],[],[(0,[(17,.sc (.k .b))])],[]⟩)] [] [(4,⟨[1],[],[(3,.sc (.k (.i .i64)))],[(1,[(2,.sc (.k .b))]),(2,[])],[]⟩)] [] Tryz.func55 (by kernel_rfl) (dw (fun _=>by kernel_rfl))
noncomputable def yo (a:MV):Option MV:=
 gA a fun cs=>
 M7 .i64 cs fun dE L=>
 bd (
 a8 (decide (dE<0)) (
 some [.b true]) (
 a8 (decide ((1000000000:Int)<dE)) (
 some [.b true]) (
 bG L fun len=>
 some [.b (decide ((50:Int)<(len:Int)))]))) fun vs=>
 gC vs fun m2 kg=>
 gB m2 fun x=>
 gN kg<|
 a8 x (
 some (.b false)) (
 bd (Loop (fun pS=>
 gC pS fun m3 mP=>
 gI .i64 m3 fun x1=>
 gN mP<|
 bG L fun eW=>
 a8 (decide (x1<(eW:Int))) (
 idx L x1 fun y=>
 gA y fun fU=>
 B7 .i64 .i64 .i64 fU fun Id Span cY=>
 bd (
 a8 (decide (Id<1)) (
 some [.b true]) (
 a8 (decide (Span<1)) (
 some [.b true]) (
 a8 (decide ((1000:Int)<Span)) (
 some [.b true]) (
 a8 (decide (cY≤dE)) (
 some [.b true]) (
 a8 (decide ((IntKind.wrap .i64 (dE+Span))<cY)) (
 some [.b true]) (
 a8 (decide ((0:Int)<x1)) (
 idx L (IntKind.wrap .i64 (x1-1)) fun y1=>
 gA y1 fun qE=>
 B7 .i64 .i64 .i64 qE fun Id1 AZ FD=>
 some [.b (decide (Id≤Id1))]) (
 some [.b false]))))))) fun j8=>
 gC j8 fun RF ul=>
 gB RF fun x2=>
 gN ul<|
 a8 x2 (
 some (.inr (1,[.b false]))) (
 some (.inl [.i .i64 (IntKind.wrap .i64 (x1+1))]))) (
 some (.inr (2,[])))) [.i .i64 0]) fun p=>
 a8 (Nat.beq p.1 2) (
 gN p.2<|
 some (.b true)) (
 cR (Nat.beq p.1 1)<|
 gC p.2 fun Vj A4=>
 gB Vj fun x3=>
 gN A4<|
 some (.b x3)))
noncomputable def IL:Nat→List MV→Option MV:=bm 56 (nv yo) IK
theorem Ht:aq Tryz.prog cx IL:=AQ Hs [] [] 77 [] [] [] [(7,[0,1,2,3,4,5,6,7,8,9,10,11,12,13,14,15,16,17,18,19,20,21,22,23,24,25,26,27,28,29,30,31,32,33,34,35,36,37,38,39,40,41,42,43,44,45])] [(7,⟨[1,3,4],[],[],[(0,[(76,.sc (.k .b))])],[]⟩),(1,⟨[1],[],[],[(0,[(18,.sc (.k .b))])],[]⟩)] [] [(4,⟨[1],[],[(3,.sc (.k (.i .i64)))],[(1,[(2,.sc (.k .b))]),(2,[])],[]⟩)] [] Tryz.func56 (by kernel_rfl) (dw (fun _=>by kernel_rfl))
noncomputable def DX (lA w:MV):Option MV:=
 gL lA fun AY=>
 gA w fun cs=>
 yM .i64 cs fun Path Client Kids=>
 bd (Loop (fun pS=>
 gC pS fun m3 mP=>
 gI .i64 m3 fun i=>
 gN mP<|
 bG AY fun len=>
 a8 (decide (i<(len:Int))) (
 idx AY i fun y=>
 gA y fun fU=>
 yM .i64 fU fun gV cG IM=>
 a8 ((decide (gV=Path))&&((decide (cG=Client))&&(decide (IM=Kids)))) (
 some (.inr (1,[.b true]))) (
 some (.inl [.i .i64 (IntKind.wrap .i64 (i+1))]))) (
 some (.inr (2,[])))) [.i .i64 0]) fun p=>
 a8 (Nat.beq p.1 2) (
 gN p.2<|
 some (.b false)) (
 cR (Nat.beq p.1 1)<|
 gC p.2 fun m7 ox=>
 gB m7 fun x=>
 gN ox<|
 some (.b x))
noncomputable def Qf:Nat→List MV→Option MV:=bm 104 (fG DX) IL
theorem Mh:aq Tryz.prog cx Qf:=AQ Ht [] [] 18 [] [] [] [(4,[0,1,2,3,4,5])] [] [] [(2,⟨[0,3],[],[(5,.sc (.k (.i .i64)))],[(1,[(4,.sc (.k .b))]),(2,[])],[]⟩)] [] Tryz.func104 (by kernel_rfl) (bD (fun _ _=>by kernel_rfl))
noncomputable def yp (t:MV):Option MV:=
 gA t fun cs=>
 gC cs fun m jm=>
 gL m fun L=>
 gN jm<|
 bd (Loop (fun gw=>
 gC gw fun m1 kg=>
 gI .i64 m1 fun i=>
 gN kg<|
 bG L fun len=>
 a8 (decide (i<(len:Int))) (
 bd (
 idx L i fun y=>
 gA y fun fU=>
 yM .i64 fU fun Path Client Kids=>
 bd (qH (.s Path)) fun rA=>
 gB rA fun x=>
 a8 (!x) (
 some [.b true]) (
 idx L i fun y1=>
 gA y1 fun qE=>
 yM .i64 qE fun gV cG IM=>
 a8 (decide (cG<0)) (
 some [.b true]) (
 bG L fun eW=>
 cR (decide ((0:Int)≤0∧(0:Int)≤i∧i≤(eW:Int)))<|
 idx L i fun y2=>
 gA y2 fun od=>
 yM .i64 od fun L9 AU af2=>
 bd (DX (.list (List.drop (Int.toNat 0) (List.take (Int.toNat i) L))) (.agg [.s L9,.i .i64 AU,.b af2])) fun aY=>
 gB aY fun x1=>
 some [.b x1]))) fun vs=>
 gC vs fun Vj A4=>
 gB Vj fun x2=>
 gN A4<|
 a8 x2 (
 some (.inr (1,[.b false]))) (
 some (.inl [.i .i64 (IntKind.wrap .i64 (i+1))]))) (
 some (.inr (2,[])))) [.i .i64 0]) fun p=>
 a8 (Nat.beq p.1 2) (
 gN p.2<|
 bG L fun gY=>
 some (.b (decide ((gY:Int)≤200)))) (
 cR (Nat.beq p.1 1)<|
 gC p.2 fun Yt FC=>
 gB Yt fun x3=>
 gN FC<|
 some (.b x3))
noncomputable def IP:Nat→List MV→Option MV:=bm 57 (nv yp) Qf
theorem Hu:aq Tryz.prog cx IP:=AQ Mh [] [] 44 [] [] [] [(4,[0,1,2,3,4,5,6,7,8,9,10,11,12,13,14,15,16,17,18,19,20,21,22,23,24,25,26,27,28])] [(4,⟨[1,3],[],[],[(0,[(39,.sc (.k .b))])],[]⟩)] [] [(2,⟨[1],[],[(3,.sc (.k (.i .i64)))],[(1,[(2,.sc (.k .b))]),(2,[])],[]⟩)] [] Tryz.func57 (by kernel_rfl) (dw (fun _=>by kernel_rfl))
noncomputable def yq (a:MV):Option MV:=
 gA a fun cs=>
 iK .i64 cs fun ei dR jt eG Seen=>
 bd (
 bd (yn (.agg [.list ei])) fun rA=>
 gB rA fun x=>
 a8 (!x) (
 some [.b true]) (
 bd (yo (.agg [.i .i64 dR,.list jt])) fun aY=>
 gB aY fun x1=>
 a8 (!x1) (
 some [.b true]) (
 bd (yp (.agg [.list eG])) fun cX=>
 gB cX fun x2=>
 a8 (!x2) (
 some [.b true]) (
 bG Seen fun len=>
 some [.b (decide ((50:Int)<(len:Int)))])))) fun vs=>
 gC vs fun m5 nF=>
 gB m5 fun x3=>
 gN nF<|
 a8 x3 (
 some (.b false)) (
 bd (Loop (fun tu=>
 gC tu fun m6 pQ=>
 gI .i64 m6 fun x4=>
 gN pQ<|
 bG Seen fun eW=>
 a8 (decide (x4<(eW:Int))) (
 idx Seen x4 fun y=>
 gA y fun fU=>
 bK .i64 .i64 .i64 .i64 fU fun Client Seq E Value Version Names=>
 bd (
 a8 (decide (Client<0)) (
 some [.b true]) (
 a8 (decide ((1000:Int)<Client)) (
 some [.b true]) (
 a8 (decide (Seq<1)) (
 some [.b true]) (
 a8 (decide ((0:Int)<x4)) (
 idx Seen (IntKind.wrap .i64 (x4-1)) fun y1=>
 gA y1 fun qE=>
 bK .i64 .i64 .i64 .i64 qE fun cG pR E1 dS b8 nG=>
 some [.b (decide (Client≤cG))]) (
 some [.b false]))))) fun j8=>
 gC j8 fun m19 jf=>
 gB m19 fun x5=>
 gN jf<|
 a8 x5 (
 some (.inr (1,[.b false]))) (
 some (.inl [.i .i64 (IntKind.wrap .i64 (x4+1))]))) (
 some (.inr (2,[])))) [.i .i64 0]) fun p=>
 a8 (Nat.beq p.1 2) (
 gN p.2<|
 some (.b true)) (
 cR (Nat.beq p.1 1)<|
 gC p.2 fun AR rz=>
 gB AR fun x6=>
 gN rz<|
 some (.b x6)))
noncomputable def IQ:Nat→List MV→Option MV:=bm 15 (nv yq) IP
theorem Hv:aq Tryz.prog cx IQ:=AQ Hu [] [] 68 [] [] [] [(7,[0,1,2,3,4,5,6,7,8,9,10,11,12,13,14,15,16,17,18,19,20,21,22,23,24,25,26,27,28])] [(7,⟨[1,3,4],[],[],[(0,[(67,.sc (.k .b))])],[]⟩),(1,⟨[1],[],[],[(0,[(26,.sc (.k .b))])],[]⟩)] [] [(4,⟨[1],[],[(3,.sc (.k (.i .i64)))],[(1,[(2,.sc (.k .b))]),(2,[])],[]⟩)] [] Tryz.func15 (by kernel_rfl) (dw (fun _=>by kernel_rfl))
noncomputable def A5 (rA:MV):Option MV:=
 gA rA fun cs=>
 bK .i64 .i64 .i64 .i64 cs fun Client Seq E Value Version Names=>
 some (.agg (eI Client Seq E Value Version Names))
noncomputable def Mi:Nat→List MV→Option MV:=bm 23 (nv A5) IQ
theorem Km:aq Tryz.prog cx Mi:=lY Hv [] 16 [] [] [] Tryz.func23 (by kernel_rfl) (dw (fun _=>by kernel_rfl))
noncomputable def sN (lA:MV):Option MV:=
 gL lA fun AY=>
 bd (Loop (fun jm=>
 L8 .i64 jm fun out i=>
 bG AY fun len=>
 a8 (decide (i<(len:Int))) (
 idx AY i fun y=>
 gA y fun cs=>
 bK .i64 .i64 .i64 .i64 cs fun Client Seq E Value Version Names=>
 bd (A5 (.agg (eI Client Seq E Value Version Names))) fun rA=>
 gA rA fun fU=>
 bK .i64 .i64 .i64 .i64 fU fun cG pR E1 dS b8 nG=>
 bG out fun eW=>
 bG ([.agg (eI cG pR E1 dS b8 nG)]:List MV) fun gY=>
 cR (decide ((eW+gY) *72≤2^46))<|
 some (.inl [.list (out++([.agg (eI cG pR E1 dS b8 nG)]:List MV)),.i .i64 (IntKind.wrap .i64 (i+1))])) (
 some (.inr (2,[.list out])))) [.list ([]:List MV),.i .i64 0]) fun p=>
 cR (Nat.beq p.1 2)<|
 gC p.2 fun m14 VE=>
 gL m14 fun zM=>
 gN VE<|
 some (.list zM)
noncomputable def C4:Nat→List MV→Option MV:=bm 33 (nv sN) Mi
theorem Dy:aq Tryz.prog cx C4:=AQ Km [] [] 21 [18] [] [] [] [] [] [(3,⟨[0],[],[(3,.sc (.own 5 61 true)),(4,.sc (.k (.i .i64)))],[(2,[(3,.sc (.own 5 61 true))])],[5,18]⟩)] [] Tryz.func33 (by kernel_rfl) (dw (fun _=>by kernel_rfl))
noncomputable def yr (a:MV):Option MV:=
 gA a fun cs=>
 iK .i64 cs fun ei dR jt eG Seen=>
 bd (sN (.list Seen)) fun rA=>
 gL rA fun x=>
 bd (Loop (fun nF=>
 gC nF fun m5 tu=>
 gL m5 fun xs=>
 gC tu fun m6 pQ=>
 gI .i64 m6 fun x1=>
 gC pQ fun m7 ox=>
 gL m7 fun GZ=>
 gC ox fun m8 FE=>
 gL m8 fun VF=>
 L8 .i64 FE fun x2 x3=>
 bG ei fun len=>
 a8 (decide (x3<(len:Int))) (
 idx ei x3 fun y=>
 gA y fun fU=>
 jX .i64 .i64 fU fun Path Value Version bI=>
 bG xs fun eW=>
 bG ([.agg (ml Path Value Version bI)]:List MV) fun gY=>
 cR (decide ((eW+gY) *48≤2^46))<|
 some (.inl (qt (xs++([.agg (ml Path Value Version bI)]:List MV)) x1 GZ VF x2 (IntKind.wrap .i64 (x3+1))))) (
 some (.inr (2,(eF xs x1 GZ VF x2))))) (qt ([]:List MV) dR ([]:List MV) ([]:List MV) x 0)) fun p=>
 cR (Nat.beq p.1 2)<|
 iK .i64 p.2 fun xs3 x4 xs4 xs5 x5=>
 bd (Loop (fun rz=>
 gC rz fun AR pv=>
 gL AR fun xs6=>
 gC pv fun Ox rv=>
 gI .i64 Ox fun x6=>
 gC rv fun RS Mj=>
 gL RS fun xs7=>
 gC Mj fun RT A6=>
 gL RT fun xs8=>
 L8 .i64 A6 fun x7 x8=>
 bG jt fun ru=>
 a8 (decide (x8<(ru:Int))) (
 idx jt x8 fun y1=>
 gA y1 fun qE=>
 B7 .i64 .i64 .i64 qE fun Id Span cY=>
 bG xs7 fun zL=>
 bG ([.agg [.i .i64 Id,.i .i64 Span,.i .i64 cY]]:List MV) fun Ot=>
 cR (decide ((zL+Ot) *24≤2^46))<|
 some (.inl (qt xs6 x6 (xs7++([.agg [.i .i64 Id,.i .i64 Span,.i .i64 cY]]:List MV)) xs8 x7 (IntKind.wrap .i64 (x8+1))))) (
 some (.inr (4,(eF xs6 x6 xs7 xs8 x7))))) (qt xs3 x4 xs4 xs5 x5 0)) fun p1=>
 cR (Nat.beq p1.1 4)<|
 iK .i64 p1.2 fun xs9 x9 akn ako zo=>
 bd (Loop (fun AV=>
 gC AV fun m34 AW=>
 gL m34 fun af3=>
 gC AW fun m35 AX=>
 gI .i64 m35 fun BD=>
 gC AX fun m36 FF=>
 gL m36 fun af5=>
 gC FF fun m37 FG=>
 gL m37 fun acp=>
 L8 .i64 FG fun C0 B8=>
 bG eG fun Vy=>
 a8 (decide (B8<(Vy:Int))) (
 idx eG B8 fun y2=>
 gA y2 fun od=>
 yM .i64 od fun gV Client Kids=>
 bG acp fun ach=>
 bG ([.agg [.s gV,.i .i64 Client,.b Kids]]:List MV) fun acj=>
 cR (decide ((ach+acj) *32≤2^46))<|
 some (.inl (qt af3 BD af5 (acp++([.agg [.s gV,.i .i64 Client,.b Kids]]:List MV)) C0 (IntKind.wrap .i64 (B8+1))))) (
 some (.inr (6,(eF af3 BD af5 acp C0))))) (qt xs9 x9 akn ako zo 0)) fun p2=>
 cR (Nat.beq p2.1 6)<|
 iK .i64 p2.2 fun akp Dw akq akr Dx=>
 some (.agg (eF akp Dw akq akr Dx))
noncomputable def IR:Nat→List MV→Option MV:=bm 16 (nv yr) C4
theorem Hw:aq Tryz.prog cx IR:=AQ Dy [] [] 105 [44,72,100] [] [] [(1,[0,1,2,3,4,5,6,7,8,9])] [] [] [(13,⟨[1,2],[3002000,3002002,3002003,3002004],[(3,.box [.own 3017000 124 true,.k (.i .i64),.own 3013001 127 true,.own 3017003 128 true,.k .l]),(8,.sc (.k (.i .i64)))],[(6,[(3,.box [.own 3017000 124 true,.k (.i .i64),.own 3013001 127 true,.own 3017003 128 true,.k .l])])],[44,72,100,3002000,3002002,3002003,3002004,3013001,3017000,3017003]⟩),(8,⟨[1,2],[3002000,3002002,3002003,3002004],[(3,.box [.own 3017000 124 true,.k (.i .i64),.own 3013001 127 true,.own 3017003 128 true,.k .l]),(6,.sc (.k (.i .i64)))],[(4,[(3,.box [.own 3017000 124 true,.k (.i .i64),.own 3013001 127 true,.own 3017003 128 true,.k .l])])],[44,72,100,3002000,3002002,3002003,3002004,3013001,3017000,3017003]⟩),(3,⟨[1,2],[3002000,3002002,3002003,3002004],[(3,.box [.own 3017000 124 true,.k (.i .i64),.own 3013001 127 true,.own 3017003 128 true,.k .l]),(4,.sc (.k (.i .i64)))],[(2,[(3,.box [.own 3017000 124 true,.k (.i .i64),.own 3013001 127 true,.own 3017003 128 true,.k .l])])],[44,72,100,3002000,3002002,3002003,3002004,3013001,3017000,3017003]⟩)] [] Tryz.func16 (by kernel_rfl) (dw (fun _=>by kernel_rfl))
noncomputable def mD (o:MV):Option MV:=
 gA o fun cs=>
 ka .i64 .i64 .i64 .i64 .i64 .i64 cs fun Client Seq Kind Path Value Version Session Span=>
 a8 (decide (Kind=1)) (
 some (.agg (c8 Client Seq Kind Path Value 0 Session 0))) (
 bd (
 a8 (decide (Kind=2)) (
 some (0,[.b (decide (Kind=2))])) (
 bd (
 a8 (decide (Kind=5)) (
 some (0,[.b (decide (Kind=5))])) (
 bd (
 a8 (decide (Kind=10)) (
 some (0,[.b (decide (Kind=10))])) (
 some (0,[.b (decide (Kind=11))]))) fun p2=>
 cR (Nat.beq p2.1 0)<|
 gC p2.2 fun m8 ox=>
 gB m8 fun x=>
 gN ox<|
 some (0,[.b x]))) fun p1=>
 cR (Nat.beq p1.1 0)<|
 gC p1.2 fun m9 FE=>
 gB m9 fun x1=>
 gN FE<|
 some (0,[.b x1]))) fun p=>
 cR (Nat.beq p.1 0)<|
 gC p.2 fun RF um=>
 gB RF fun x2=>
 gN um<|
 a8 x2 (
 some (.agg (c8 Client Seq Kind Path ([]:List UInt8) 0 0 0))) (
 a8 (decide (Kind=3)) (
 some (.agg (c8 Client Seq Kind Path Value Version 0 0))) (
 a8 (decide (Kind=4)) (
 some (.agg (c8 Client Seq Kind Path ([]:List UInt8) Version 0 0))) (
 a8 (decide (Kind=6)) (
 some (.agg (c8 Client Seq Kind ([]:List UInt8) ([]:List UInt8) 0 Session Span))) (
 bd (
 a8 (decide (Kind=7)) (
 some (0,[.b (decide (Kind=7))])) (
 some (0,[.b (decide (Kind=8))]))) fun p3=>
 cR (Nat.beq p3.1 0)<|
 gC p3.2 fun Vj ul=>
 gB Vj fun x3=>
 gN ul<|
 a8 x3 (
 some (.agg (c8 Client Seq Kind ([]:List UInt8) ([]:List UInt8) 0 Session 0))) (
 a8 (decide (Kind=9)) (
 some (.agg (c8 Client Seq Kind ([]:List UInt8) ([]:List UInt8) 0 0 Span))) (
 some (.agg (c8 Client Seq Kind ([]:List UInt8) ([]:List UInt8) 0 0 0)))))))))
noncomputable def vZ:Nat→List MV→Option MV:=bm 81 (nv mD) IR
theorem yN:aq Tryz.prog cx vZ:=AQ Hw [] [] 62 [] [34,36,49] [(1,[1])] [(14,[0,1,2,3,4,5,6,7,8,9,10,11]),(17,[0,1,2,3,4,5,6,7])] [] [(12,⟨[1,2,3,12],[],[],[(0,[(26,.sc (.k .b))])],[]⟩),(7,⟨[1,2,3,12],[],[],[(0,[(15,.sc (.k .b))])],[]⟩),(6,⟨[1,2,3,12],[],[],[(0,[(15,.sc (.k .b))])],[]⟩),(5,⟨[1,2,3,12],[],[],[(0,[(15,.sc (.k .b))])],[]⟩)] [] [] Tryz.func81 (by kernel_rfl) (dw (fun _=>by kernel_rfl))
noncomputable def yt (o:MV):Option MV:=
 gA o fun cs=>
 ka .i64 .i64 .i64 .i64 .i64 .i64 cs fun Client Seq Kind Path Value Version Session Span=>
 bd (
 a8 (decide ((0:Int)≤Client)) (
 a8 (decide (Client≤1000)) (
 a8 (decide ((1:Int)≤Seq)) (
 some [.b (decide (Seq≤1000000000))]) (
 some [.b false])) (
 some [.b false])) (
 some [.b false])) fun vs=>
 gC vs fun m8 ox=>
 gB m8 fun who=>
 gN ox<|
 bd (
 a8 who (
 a8 (decide ((0:Int)≤Kind)) (
 a8 (decide (Kind≤11)) (
 a8 (decide ((Path.length:Int)≤100)) (
 a8 (decide ((Value.length:Int)≤1000)) (
 bd (mD (.agg (c8 Client Seq Kind Path Value Version Session Span))) fun rA=>
 gA rA fun fU=>
 ka .i64 .i64 .i64 .i64 .i64 .i64 fU fun cG pR aaw gV dS b8 Md AZ=>
 some [.b ((decide (Client=cG))&&((decide (Seq=pR))&&((decide (Kind=aaw))&&((decide (Path=gV))&&((decide (Value=dS))&&((decide (Version=b8))&&((decide (Session=Md))&&(decide (Span=AZ)))))))))]) (
 some [.b false])) (
 some [.b false])) (
 some [.b false])) (
 some [.b false])) (
 some [.b false])) fun j8=>
 gC j8 fun m17 Vx=>
 gB m17 fun x=>
 gN Vx<|
 some (.b x)
noncomputable def IU:Nat→List MV→Option MV:=bm 35 (nv yt) vZ
theorem Hx:aq Tryz.prog cx IU:=AQ yN [] [] 51 [] [] [] [(2,[0,1,2,3,4,5,6,7,8,9,10,11,12,13,14,15,16,17,18,19,20,21,22,23,24,25,26,27,28,29])] [(2,⟨[1,3],[],[],[(0,[(2,.sc (.k .b))])],[]⟩),(1,⟨[1],[],[],[(0,[(3,.sc (.k .b))])],[]⟩)] [] [] [] Tryz.func35 (by kernel_rfl) (dw (fun _=>by kernel_rfl))
noncomputable def nH (x:MV):Option MV:=
 gI .i64 x fun x1=>
 some (.b (!decide (x1=x1)))
noncomputable def A7:Nat→List MV→Option MV:=bm 183 (nv nH) IU
theorem Ca:aq Tryz.prog cx A7:=lY Hx [] 6 [] [] [] Tryz.func183 (by kernel_rfl) (dw (fun _=>by kernel_rfl))
noncomputable def kV (x y:MV):Option MV:=
 gI .i64 x fun x1=>
 gI .i64 y fun y1=>
 bd (nH (.i .i64 x1)) fun rA=>
 gB rA fun x2=>
 bd (nH (.i .i64 y1)) fun aY=>
 gB aY fun x3=>
 a8 x2 (
 a8 x3 (
 some (.i .i64 0)) (
 some (.i .i64 (-1)))) (
 a8 x3 (
 some (.i .i64 1)) (
 a8 (decide (x1<y1)) (
 some (.i .i64 (-1))) (
 a8 (decide (y1<x1)) (
 some (.i .i64 1)) (
 some (.i .i64 0)))))
noncomputable def xp:Nat→List MV→Option MV:=bm 121 (fG kV) A7
theorem zN:aq Tryz.prog cx xp:=lY Ca [] 20 [] [] [] Tryz.func121 (by kernel_rfl) (bD (fun _ _=>by kernel_rfl))
noncomputable def jE (x eE:MV):Option MV:=
 gA x fun cs=>
 bK .i64 .i64 .i64 .i64 cs fun Client Seq E Value Version Names=>
 gI .i64 eE fun A8=>
 bd (kV (.i .i64 Client) (.i .i64 A8)) fun rA=>
 gI .i64 rA fun x1=>
 some (.i .i64 x1)
noncomputable def mQ:Nat→List MV→Option MV:=bm 120 (fG jE) xp
theorem vo:aq Tryz.prog cx mQ:=lY zN [] 9 [] [] [] Tryz.func120 (by kernel_rfl) (bD (fun _ _=>by kernel_rfl))
noncomputable def cw:Nat→List MV→Option MV:=mQ
theorem fP (x0 x1:MV):cw 120 [x0,x1]=jE x0 x1:=by kernel_rfl
noncomputable def cH (x target cmp:MV):Option MV:=
 gL x fun x1=>
 gI .i64 target fun sO=>
 gR cmp fun Mk=>
 bG x1 fun len=>
 bd (Loop (fun jm=>
 L7 .i64 .i64 jm fun i j=>
 a8 (decide (i<j)) (
 cR (decide ((0:Int)≤1))<|
 idx x1 (IntKind.wrap .i64 (Int.fdiv (IntKind.wrap .u64 (IntKind.wrap .i64 (i+j))) (2^min (Int.toNat 1) (IntKind.bits .u64)))) fun y=>
 gA y fun cs=>
 bK .i64 .i64 .i64 .i64 cs fun Client Seq E Value Version Names=>
 Na Mk fun fn cap=>
 cR (!gv fn)<|
 bd (cw fn ([.agg (eI Client Seq E Value Version Names),.i .i64 sO]++cap)) fun rA=>
 gI .i64 rA fun x2=>
 bd (
 a8 (decide (x2<0)) (
 some (0,[.i .i64 (IntKind.wrap .i64 ((IntKind.wrap .i64 (Int.fdiv (IntKind.wrap .u64 (IntKind.wrap .i64 (i+j))) (2^min (Int.toNat 1) (IntKind.bits .u64))))+1)),.i .i64 j])) (
 some (0,[.i .i64 i,.i .i64 (IntKind.wrap .i64 (Int.fdiv (IntKind.wrap .u64 (IntKind.wrap .i64 (i+j))) (2^min (Int.toNat 1) (IntKind.bits .u64))))]))) fun p1=>
 cR (Nat.beq p1.1 0)<|
 L7 .i64 .i64 p1.2 fun i1 j1=>
 some (.inl [.i .i64 i1,.i .i64 j1])) (
 some (.inr (2,[.i .i64 i])))) [.i .i64 0,.i .i64 (len:Int)]) fun p=>
 cR (Nat.beq p.1 2)<|
 gC p.2 fun RF ul=>
 gI .i64 RF fun i2=>
 gN ul<|
 bd (
 a8 (decide (i2<(len:Int))) (
 idx x1 i2 fun y1=>
 gA y1 fun fU=>
 bK .i64 .i64 .i64 .i64 fU fun cG pR E1 dS b8 nG=>
 Na Mk fun Ad r5=>
 cR (!gv Ad)<|
 bd (cw Ad ([.agg (eI cG pR E1 dS b8 nG),.i .i64 sO]++r5)) fun aY=>
 gI .i64 aY fun x3=>
 some [.i .i64 i2,.b (decide (x3=0))]) (
 some [.i .i64 i2,.b false])) fun vs=>
 Oq .i64 vs fun x4 x5=>
 some (.cK [.i .i64 x4,.b x5])
noncomputable def fR:Nat→List MV→Option MV:=bm 119 (Fj cH) mQ
theorem kh:aq Tryz.prog cx fR:=lY vo [] 49 [(8,⟨[0,1,2,8,9],[],[],[(0,[(6,.sc (.k (.i .i64))),(7,.sc (.k .b))])],[]⟩)] [(6,⟨[0,1,2,8,11],[],[],[(0,[(9,.sc (.k (.i .i64))),(10,.sc (.k (.i .i64)))])],[]⟩)] [(3,⟨[0,1,2,8],[],[(9,.sc (.k (.i .i64))),(10,.sc (.k (.i .i64)))],[(2,[(9,.sc (.k (.i .i64)))])],[]⟩)] Tryz.func119 (by kernel_rfl) (qq (fun _ _ _=>by kernel_rfl))
noncomputable def jg (rA eE:MV):Option MV:=
 gA rA fun cs=>
 iK .i64 cs fun ei dR jt eG Seen=>
 gI .i64 eE fun A8=>
 bd (cH (.list Seen) (.i .i64 A8) (.func 120 [])) fun aY=>
 gT aY fun vs=>
 Oq .i64 vs fun x x1=>
 some (.cK [.i .i64 x,.b x1])
noncomputable def uo:Nat→List MV→Option MV:=bm 62 (fG jg) fR
theorem xq:aq Tryz.prog cx uo:=lY kh [] 12 [] [] [] Tryz.func62 (by kernel_rfl) (bD (fun _ _=>by kernel_rfl))
noncomputable def rB (rA eE:MV):Option MV:=
 gA rA fun cs=>
 iK .i64 cs fun ei dR jt eG Seen=>
 gI .i64 eE fun A8=>
 bd (jg (.agg (eF ei dR jt eG Seen)) (.i .i64 A8)) fun aY=>
 gT aY fun vs=>
 Oq .i64 vs fun x x1=>
 a8 (!x1) (
 some (.cK [.agg (eI 0 0 0 ([]:List UInt8) 0 ([]:List MV)),.b false])) (
 idx Seen x fun y=>
 gA y fun fU=>
 bK .i64 .i64 .i64 .i64 fU fun Client Seq E Value Version Names=>
 some (.cK [.agg (eI Client Seq E Value Version Names),.b true]))
noncomputable def FH:Nat→List MV→Option MV:=bm 36 (fG rB) uo
theorem FI:aq Tryz.prog cx FH:=lY xq [] 22 [] [] [] Tryz.func36 (by kernel_rfl) (bD (fun _ _=>by kernel_rfl))
noncomputable def lE (rA o:MV):Option MV:=
 gA rA fun cs=>
 iK .i64 cs fun ei dR jt eG Seen=>
 gA o fun fU=>
 ka .i64 .i64 .i64 .i64 .i64 .i64 fU fun Client Seq Kind Path Value Version Session Span=>
 bd (rB (.agg (eF ei dR jt eG Seen)) (.i .i64 Client)) fun aY=>
 gT aY fun vs=>
 gC vs fun Vk FC=>
 gA Vk fun qE=>
 bK .i64 .i64 .i64 .i64 qE fun cG pR E dS b8 Names=>
 gC FC fun AR jf=>
 gB AR fun x=>
 gN jf<|
 bd (yt (.agg (c8 Client Seq Kind Path Value Version Session Span))) fun cX=>
 gB cX fun x1=>
 bd (
 a8 (!x1) (
 some (0,[.i .i64 0,.i .i64 0,.i .i64 0,.s ([]:List UInt8),.i .i64 0,.list ([]:List MV),.i .i64 Client,.i .i64 Seq,.i .i64 1,.s ([]:List UInt8),.i .i64 0,.list ([]:List MV)])) (
 bd (
 a8 x (
 some [.b (decide (pR=Seq))]) (
 some [.b false])) fun j8=>
 gC j8 fun Ox rz=>
 gB Ox fun x2=>
 gN rz<|
 a8 x2 (
 some (1,[.i .i64 cG,.i .i64 pR,.i .i64 E,.s dS,.i .i64 b8,.list Names,.b true])) (
 bd (
 a8 x (
 some [.b (decide (Seq<pR))]) (
 some [.b false])) fun ql=>
 gC ql fun RS pv=>
 gB RS fun x3=>
 gN pv<|
 bd (
 a8 x3 (
 some (0,[.i .i64 0,.i .i64 0,.i .i64 0,.s ([]:List UInt8),.i .i64 0,.list ([]:List MV),.i .i64 Client,.i .i64 Seq,.i .i64 15,.s ([]:List UInt8),.i .i64 0,.list ([]:List MV)])) (
 bd (
 a8 (!x) (
 bG Seen fun len=>
 some [.b (decide ((50:Int)≤(len:Int)))]) (
 some [.b false])) fun YO=>
 gC YO fun RT rv=>
 gB RT fun x4=>
 gN rv<|
 a8 x4 (
 some (0,[.i .i64 0,.i .i64 0,.i .i64 0,.s ([]:List UInt8),.i .i64 0,.list ([]:List MV),.i .i64 Client,.i .i64 Seq,.i .i64 9,.s ([]:List UInt8),.i .i64 0,.list ([]:List MV)])) (
 some (1,[.i .i64 Client,.i .i64 Seq,.i .i64 0,.s ([]:List UInt8),.i .i64 0,.list ([]:List MV),.b false])))) fun p1=>
 a8 (Nat.beq p1.1 0) (
 gC p1.2 fun m24 Mj=>
 gI .i64 m24 fun x5=>
 gC Mj fun m25 A6=>
 gI .i64 m25 fun x6=>
 gC A6 fun m26 VG=>
 gI .i64 m26 fun x7=>
 gC VG fun m27 af7=>
 gS m27 fun x8=>
 gC af7 fun m28 Ml=>
 gI .i64 m28 fun x9=>
 gC Ml fun m29 VH=>
 gL m29 fun zo=>
 bK .i64 .i64 .i64 .i64 VH fun BD C0 B8 Dw Dx Fq=>
 some (0,[.i .i64 x5,.i .i64 x6,.i .i64 x7,.s x8,.i .i64 x9,.list zo,.i .i64 BD,.i .i64 C0,.i .i64 B8,.s Dw,.i .i64 Dx,.list Fq])) (
 cR (Nat.beq p1.1 1)<|
 gC p1.2 fun m36 AV=>
 gI .i64 m36 fun Fs=>
 gC AV fun m37 AW=>
 gI .i64 m37 fun Ft=>
 gC AW fun m38 AX=>
 gI .i64 m38 fun Fu=>
 gC AX fun m39 FF=>
 gS m39 fun M8=>
 gC FF fun m40 FG=>
 gI .i64 m40 fun SV=>
 Vi FG fun x22 x23=>
 some (1,[.i .i64 Fs,.i .i64 Ft,.i .i64 Fu,.s M8,.i .i64 SV,.list x22,.b x23]))))) fun p=>
 a8 (Nat.beq p.1 0) (
 gC p.2 fun m43 Mm=>
 gI .i64 m43 fun x24=>
 gC Mm fun m44 agb=>
 gI .i64 m44 fun x25=>
 gC agb fun m45 agc=>
 gI .i64 m45 fun x26=>
 gC agc fun m46 agd=>
 gS m46 fun x27=>
 gC agd fun m47 age=>
 gI .i64 m47 fun x28=>
 gC age fun m48 VI=>
 gL m48 fun x29=>
 bK .i64 .i64 .i64 .i64 VI fun x30 x31 x32 x33 x34 x35=>
 some (.cK [.agg (eI x30 x31 x32 x33 x34 x35),.b true])) (
 cR (Nat.beq p.1 1)<|
 gC p.2 fun m55 agm=>
 gI .i64 m55 fun x36=>
 gC agm fun m56 ago=>
 gI .i64 m56 fun x37=>
 gC ago fun m57 agq=>
 gI .i64 m57 fun x38=>
 gC agq fun m58 VJ=>
 gS m58 fun x39=>
 gC VJ fun m59 agt=>
 gI .i64 m59 fun x40=>
 Vi agt fun x41 x42=>
 some (.cK [.agg (eI x36 x37 x38 x39 x40 x41),.b x42]))
noncomputable def uq:Nat→List MV→Option MV:=bm 58 (fG lE) FH
theorem xr:aq Tryz.prog cx uq:=lY FI [] 58 [(10,⟨[2,4,6,8],[],[],[(0,[(47,.sc (.k .b))])],[]⟩),(8,⟨[2,3,4,6,7,8],[],[],[(0,[(37,.sc (.k .b))])],[]⟩),(6,⟨[2,3,4,6,7,8],[],[],[(0,[(27,.sc (.k .b))])],[]⟩)] [(9,⟨[2,8],[],[],[(0,[(4,.box [.k (.i .i64),.k (.i .i64),.k (.i .i64),.k .s,.k (.i .i64),.k .l]),(6,.box [.k (.i .i64),.k (.i .i64),.k (.i .i64),.k .s,.k (.i .i64),.k .l])]),(1,[(4,.box [.k (.i .i64),.k (.i .i64),.k (.i .i64),.k .s,.k (.i .i64),.k .l]),(5,.sc (.k .b))])],[]⟩),(5,⟨[2,3,7,8],[],[],[(0,[(4,.box [.k (.i .i64),.k (.i .i64),.k (.i .i64),.k .s,.k (.i .i64),.k .l]),(6,.box [.k (.i .i64),.k (.i .i64),.k (.i .i64),.k .s,.k (.i .i64),.k .l])]),(1,[(4,.box [.k (.i .i64),.k (.i .i64),.k (.i .i64),.k .s,.k (.i .i64),.k .l]),(5,.sc (.k .b))])],[]⟩)] [] Tryz.func58 (by kernel_rfl) (bD (fun _ _=>by kernel_rfl))
noncomputable def jF (w:List MV):Option MV:=
 aA .i64 .i64 .i64 .i64 .i64 .i64 .i64 .i64 .i64 .i64 .i64 w fun cB b9 dP cV gX cI mn fS en dx bY bL fK cC lF xE dC ca dD lA=>
 some (.ej (.cK []) (ar cB b9 dP cV gX cI mn fS en dx bY bL fK cC lF xE dC ca dD lA))
noncomputable def rC:Nat→List MV→Option MV:=bm 105 (RR jF) uq
theorem vp:aq Tryz.prog cx rC:=M6 xr 0 jr [] [(0,1000000)] 2 [] [] [] [] [] [] [] [] Tryz.func105 (by kernel_rfl) (by kernel_rfl) (rr fun _=>by kernel_rfl)
noncomputable def kp (x id:MV):Option MV:=
 gA x fun cs=>
 B7 .i64 .i64 .i64 cs fun Id Span cY=>
 gI .i64 id fun M9=>
 bd (kV (.i .i64 Id) (.i .i64 M9)) fun rA=>
 gI .i64 rA fun x1=>
 some (.i .i64 x1)
noncomputable def nI:Nat→List MV→Option MV:=bm 144 (fG kp) rC
theorem wz:aq Tryz.prog cx nI:=lY vp [] 9 [] [] [] Tryz.func144 (by kernel_rfl) (bD (fun _ _=>by kernel_rfl))
noncomputable def ch:Nat→List MV→Option MV:=nI
theorem fH (x0 x1:MV):ch 144 [x0,x1]=kp x0 x1:=by kernel_rfl
noncomputable def cy (x target cmp:MV):Option MV:=
 gL x fun x1=>
 gI .i64 target fun sO=>
 gR cmp fun Mk=>
 bG x1 fun len=>
 bd (Loop (fun jm=>
 L7 .i64 .i64 jm fun i j=>
 a8 (decide (i<j)) (
 cR (decide ((0:Int)≤1))<|
 idx x1 (IntKind.wrap .i64 (Int.fdiv (IntKind.wrap .u64 (IntKind.wrap .i64 (i+j))) (2^min (Int.toNat 1) (IntKind.bits .u64)))) fun y=>
 gA y fun cs=>
 B7 .i64 .i64 .i64 cs fun Id Span cY=>
 Na Mk fun fn cap=>
 cR (!gv fn)<|
 bd (ch fn ([.agg [.i .i64 Id,.i .i64 Span,.i .i64 cY],.i .i64 sO]++cap)) fun rA=>
 gI .i64 rA fun x2=>
 bd (
 a8 (decide (x2<0)) (
 some (0,[.i .i64 (IntKind.wrap .i64 ((IntKind.wrap .i64 (Int.fdiv (IntKind.wrap .u64 (IntKind.wrap .i64 (i+j))) (2^min (Int.toNat 1) (IntKind.bits .u64))))+1)),.i .i64 j])) (
 some (0,[.i .i64 i,.i .i64 (IntKind.wrap .i64 (Int.fdiv (IntKind.wrap .u64 (IntKind.wrap .i64 (i+j))) (2^min (Int.toNat 1) (IntKind.bits .u64))))]))) fun p1=>
 cR (Nat.beq p1.1 0)<|
 L7 .i64 .i64 p1.2 fun i1 j1=>
 some (.inl [.i .i64 i1,.i .i64 j1])) (
 some (.inr (2,[.i .i64 i])))) [.i .i64 0,.i .i64 (len:Int)]) fun p=>
 cR (Nat.beq p.1 2)<|
 gC p.2 fun m7 ox=>
 gI .i64 m7 fun i2=>
 gN ox<|
 bd (
 a8 (decide (i2<(len:Int))) (
 idx x1 i2 fun y1=>
 gA y1 fun fU=>
 B7 .i64 .i64 .i64 fU fun Id1 AZ FD=>
 Na Mk fun Ad r5=>
 cR (!gv Ad)<|
 bd (ch Ad ([.agg [.i .i64 Id1,.i .i64 AZ,.i .i64 FD],.i .i64 sO]++r5)) fun aY=>
 gI .i64 aY fun x3=>
 some [.i .i64 i2,.b (decide (x3=0))]) (
 some [.i .i64 i2,.b false])) fun vs=>
 Oq .i64 vs fun x4 x5=>
 some (.cK [.i .i64 x4,.b x5])
noncomputable def fw:Nat→List MV→Option MV:=bm 143 (Fj cy) nI
theorem jG:aq Tryz.prog cx fw:=lY wz [] 49 [(8,⟨[0,1,2,8,9],[],[],[(0,[(6,.sc (.k (.i .i64))),(7,.sc (.k .b))])],[]⟩)] [(6,⟨[0,1,2,8,11],[],[],[(0,[(9,.sc (.k (.i .i64))),(10,.sc (.k (.i .i64)))])],[]⟩)] [(3,⟨[0,1,2,8],[],[(9,.sc (.k (.i .i64))),(10,.sc (.k (.i .i64)))],[(2,[(9,.sc (.k (.i .i64)))])],[]⟩)] Tryz.func143 (by kernel_rfl) (qq (fun _ _ _=>by kernel_rfl))
noncomputable def fQ (b id:MV):Option MV:=
 gA b fun cs=>
 M7 .i64 cs fun dE L=>
 gI .i64 id fun M9=>
 bd (cy (.list L) (.i .i64 M9) (.func 144 [])) fun rA=>
 gT rA fun vs=>
 Oq .i64 vs fun x x1=>
 some (.cK [.i .i64 x,.b x1])
noncomputable def v7:Nat→List MV→Option MV:=bm 82 (fG fQ) fw
theorem yO:aq Tryz.prog cx v7:=lY jG [] 12 [] [] [] Tryz.func82 (by kernel_rfl) (bD (fun _ _=>by kernel_rfl))
noncomputable def yu (b id:MV):Option MV:=
 gA b fun cs=>
 M7 .i64 cs fun dE L=>
 gI .i64 id fun M9=>
 bd (fQ (.agg [.i .i64 dE,.list L]) (.i .i64 M9)) fun rA=>
 gT rA fun vs=>
 Oq .i64 vs fun x x1=>
 some (.b x1)
noncomputable def IV:Nat→List MV→Option MV:=bm 37 (fG yu) v7
theorem Hy:aq Tryz.prog cx IV:=lY yO [] 14 [] [] [] Tryz.func37 (by kernel_rfl) (bD (fun _ _=>by kernel_rfl))
noncomputable def gJ (sA dg:MV):Option MV:=
 gS sA fun lZ=>
 gS dg fun jY=>
 bd (
 a8 (decide ((jY.length:Int)≤(lZ.length:Int))) (
 cR (decide ((0:Int)≤0∧(0:Int)≤(jY.length:Int)∧(jY.length:Int)≤(lZ.length:Int)))<|
 some [.b (decide ((List.drop (Int.toNat 0) (List.take (Int.toNat (jY.length:Int)) lZ))=jY))]) (
 some [.b false])) fun vs=>
 gC vs fun m jm=>
 gB m fun x=>
 gN jm<|
 some (.b x)
noncomputable def nY:Nat→List MV→Option MV:=bm 251 (fG gJ) IV
theorem r6:aq Tryz.prog cx nY:=lY Hy [] 18 [(1,⟨[0,1],[],[],[(0,[(4,.sc (.k .b))])],[]⟩)] [] [] Tryz.func251 (by kernel_rfl) (bD (fun _ _=>by kernel_rfl))
noncomputable def gK (sA dg:MV):Option MV:=
 gS sA fun lZ=>
 gS dg fun jY=>
 bd (gJ (.s lZ) (.s jY)) fun rA=>
 gB rA fun x=>
 a8 (!x) (
 some (.cK [.s lZ,.b false])) (
 cR (decide ((0:Int)≤(jY.length:Int)∧(jY.length:Int)≤(lZ.length:Int)∧(lZ.length:Int)≤(lZ.length:Int)))<|
 some (.cK [.s (List.drop (Int.toNat (jY.length:Int)) (List.take (Int.toNat (lZ.length:Int)) lZ)),.b true]))
noncomputable def nZ:Nat→List MV→Option MV:=bm 232 (fG gK) nY
theorem r7:aq Tryz.prog cx nZ:=lY r6 [] 15 [] [] [] Tryz.func232 (by kernel_rfl) (bD (fun _ _=>by kernel_rfl))
noncomputable def kq (sA dg:MV):Option MV:=
 gS sA fun lZ=>
 gS dg fun jY=>
 bd (gK (.s lZ) (.s jY)) fun rA=>
 gT rA fun vs=>
 gC vs fun m jm=>
 gS m fun x=>
 gC jm fun m1 gw=>
 gB m1 fun x1=>
 gN gw<|
 some (.cK [.s x,.b x1])
noncomputable def sP:Nat→List MV→Option MV:=bm 193 (fG kq) nZ
theorem wA:aq Tryz.prog cx sP:=lY r7 [] 11 [] [] [] Tryz.func193 (by kernel_rfl) (bD (fun _ _=>by kernel_rfl))
noncomputable def oS (c:MV):Option MV:=
 gI .i32 c fun c1=>
 bd (qY [.s ([97,98,99,100,101,102,103,104,105,106,107,108,109,110,111,112,113,114,115,116,117,118,119,120,121,122,48,49,50,51,52,53,54,55,56,57,45,95]:List UInt8),.i .i32 c1]) fun rA=>
 gB rA fun x=>
 some (.b (!x))
noncomputable def tw:Nat→List MV→Option MV:=bm 237 (nv oS) sP
theorem A9:aq Tryz.prog cx tw:=lY wA [] 6 [] [] [] Tryz.func237 (by kernel_rfl) (dw (fun _=>by kernel_rfl))
noncomputable def iA:Nat→List MV→Option MV:=tw
theorem pT (x0:MV):iA 237 [x0]=oS x0:=by kernel_rfl
noncomputable def mE (sA f CZ:MV):Option MV:=
 gS sA fun lZ=>
 gR f fun f1=>
 gB CZ fun acu=>
 bd (Loop (fun jm=>
 gC jm fun m gw=>
 gL m fun es=>
 gN gw<|
 a8 (G8 es) (
 Na f1 fun fn cap=>
 cR (!gv fn)<|
 bd (iA fn ([.i .i32 (wR es)]++cap)) fun rA=>
 gB rA fun x=>
 a8 (decide (x=acu)) (
 some (.inr (1,[.i .i64 (qc es)]))) (
 some (.inl [.list (zx es)]))) (
 some (.inr (2,[])))) [.list ([.s lZ,.i .i64 0]:List MV)]) fun p=>
 a8 (Nat.beq p.1 2) (
 gN p.2<|
 some (.i .i64 (-1))) (
 cR (Nat.beq p.1 1)<|
 gC p.2 fun m1 kg=>
 gI .i64 m1 fun x1=>
 gN kg<|
 some (.i .i64 x1))
noncomputable def v8:Nat→List MV→Option MV:=bm 275 (Fj mE) tw
theorem yP:aq Tryz.prog cx v8:=lY A9 [] 21 [] [] [(2,⟨[1,2],[],[(10,.mp ⟨true,[],true⟩)],[(1,[(6,.sc (.k (.i .i64)))]),(2,[])],[]⟩)] Tryz.func275 (by kernel_rfl) (qq (fun _ _ _=>by kernel_rfl))
noncomputable def kr (sA f:MV):Option MV:=
 gS sA fun lZ=>
 gR f fun f1=>
 bd (mE (.s lZ) f1 (.b true)) fun rA=>
 gI .i64 rA fun x=>
 some (.i .i64 x)
noncomputable def sQ:Nat→List MV→Option MV:=bm 262 (fG kr) v8
theorem wB:aq Tryz.prog cx sQ:=lY yP [] 8 [] [] [] Tryz.func262 (by kernel_rfl) (bD (fun _ _=>by kernel_rfl))
noncomputable def iB (sA f:MV):Option MV:=
 gS sA fun lZ=>
 gR f fun f1=>
 bd (kr (.s lZ) f1) fun rA=>
 gI .i64 rA fun x=>
 some (.b (decide ((0:Int)≤x)))
noncomputable def pw:Nat→List MV→Option MV:=bm 236 (fG iB) sQ
theorem tx:aq Tryz.prog cx pw:=lY wB [] 9 [] [] [] Tryz.func236 (by kernel_rfl) (bD (fun _ _=>by kernel_rfl))
noncomputable def sR (sA:MV):Option MV:=
 gS sA fun lZ=>
 bd (
 a8 (!decide (lZ=([]:List UInt8))) (
 a8 (decide ((lZ.length:Int)≤30)) (
 bd (Fk [.s lZ,.s ([97,98,99,100,101,102,103,104,105,106,107,108,109,110,111,112,113,114,115,116,117,118,119,120,121,122,48,49,50,51,52,53,54,55,56,57,45,95]:List UInt8)]) fun rA=>
 gS rA fun x=>
 a8 (decide (x=([]:List UInt8))) (
 bd (iB (.s lZ) (.func 237 [])) fun aY=>
 gB aY fun x1=>
 some [.b (!x1)]) (
 some [.b false])) (
 some [.b false])) (
 some [.b false])) fun vs=>
 gC vs fun m jm=>
 gB m fun x2=>
 gN jm<|
 some (.b x2)
noncomputable def C5:Nat→List MV→Option MV:=bm 197 (nv sR) pw
theorem Dz:aq Tryz.prog cx C5:=lY tx [] 20 [(1,⟨[0],[],[],[(0,[(2,.sc (.k .b))])],[]⟩)] [] [] Tryz.func197 (by kernel_rfl) (dw (fun _=>by kernel_rfl))
noncomputable def qu (sA:MV):Option MV:=
 gS sA fun lZ=>
 bd (sR (.s lZ)) fun rA=>
 gB rA fun x=>
 some (.b (!x))
noncomputable def vq:Nat→List MV→Option MV:=bm 196 (nv qu) C5
theorem Cb:aq Tryz.prog cx vq:=lY Dz [] 6 [] [] [] Tryz.func196 (by kernel_rfl) (dw (fun _=>by kernel_rfl))
noncomputable def eZ:Nat→List MV→Option MV:=vq
theorem mR (x0:MV):eZ 196 [x0]=qu x0:=by kernel_rfl
noncomputable def ga (sA f:MV):Option MV:=
 gL sA fun lZ=>
 gR f fun f1=>
 bG lZ fun len=>
 bd (Loop (fun jm=>
 gC jm fun m gw=>
 gI .i64 m fun x=>
 gN gw<|
 a8 (decide (x<(len:Int))) (
 idx lZ x fun y=>
 gS y fun x1=>
 Na f1 fun fn cap=>
 cR (!gv fn)<|
 bd (eZ fn ([.s x1]++cap)) fun rA=>
 gB rA fun x2=>
 a8 x2 (
 some (.inr (1,[.i .i64 x]))) (
 some (.inl [.i .i64 (IntKind.wrap .i64 (x+1))]))) (
 some (.inr (2,[])))) [.i .i64 0]) fun p=>
 a8 (Nat.beq p.1 2) (
 gN p.2<|
 some (.i .i64 (-1))) (
 cR (Nat.beq p.1 1)<|
 gC p.2 fun m1 kg=>
 gI .i64 m1 fun x3=>
 gN kg<|
 some (.i .i64 x3))
noncomputable def nJ:Nat→List MV→Option MV:=bm 234 (fG ga) vq
theorem rD:aq Tryz.prog cx nJ:=lY Cb [] 19 [] [] [(2,⟨[0,1,7],[],[(8,.sc (.k (.i .i64)))],[(1,[(4,.sc (.k (.i .i64)))]),(2,[])],[]⟩)] Tryz.func234 (by kernel_rfl) (bD (fun _ _=>by kernel_rfl))
noncomputable def eJ (sA f:MV):Option MV:=
 gL sA fun lZ=>
 gR f fun f1=>
 bd (ga (.list lZ) f1) fun rA=>
 gI .i64 rA fun x=>
 some (.b (decide ((0:Int)≤x)))
noncomputable def lM:Nat→List MV→Option MV:=bm 195 (fG eJ) nJ
theorem pz:aq Tryz.prog cx lM:=lY rD [] 9 [] [] [] Tryz.func195 (by kernel_rfl) (bD (fun _ _=>by kernel_rfl))
noncomputable def jH (p:MV):Option MV:=
 gS p fun p1=>
 bd (kq (.s p1) (.s ([47]:List UInt8))) fun rA=>
 gT rA fun vs=>
 gC vs fun m jm=>
 gS m fun x=>
 gC jm fun m1 gw=>
 gB m1 fun x1=>
 gN gw<|
 bd (
 a8 (!x1) (
 some [.b true]) (
 some [.b (decide ((100:Int)<(p1.length:Int)))])) fun j8=>
 gC j8 fun m2 kg=>
 gB m2 fun x2=>
 gN kg<|
 a8 x2 (
 some (.cK [.list ([]:List MV),.b false])) (
 a8 (decide (x=([]:List UInt8))) (
 some (.cK [.list ([]:List MV),.b true])) (
 bd (xj [.s x,.s ([47]:List UInt8)]) fun aY=>
 gF aY fun xs=>
 bd (
 bG xs fun len=>
 a8 (decide ((len:Int)≤8)) (
 bd (eJ (.list xs) (.func 196 [])) fun cX=>
 gB cX fun x3=>
 some [.list xs,.b (!x3),.list xs]) (
 some [.list xs,.b false,.list xs])) fun ql=>
 gC ql fun m3 pS=>
 gL m3 fun GZ=>
 gC pS fun m4 mP=>
 gB m4 fun x4=>
 gC mP fun m5 nF=>
 gL m5 fun lA=>
 gN nF<|
 some (.cK [.list lA,.b x4])))
noncomputable def FJ:Nat→List MV→Option MV:=bm 137 (nv jH) lM
theorem FK:aq Tryz.prog cx FJ:=lY pz [] 34 [(7,⟨[],[],[],[(0,[(2,.sc (.own 24 9 true)),(3,.sc (.k .b)),(6,.sc (.own 24 9 true))])],[24]⟩),(2,⟨[0,4,5],[],[],[(0,[(12,.sc (.k .b))])],[24]⟩)] [] [] Tryz.func137 (by kernel_rfl) (dw (fun _=>by kernel_rfl))
noncomputable def jZ (x:MV):Option MV:=
 gS x fun x1=>
 some (.b (!decide (x1=x1)))
noncomputable def wa:Nat→List MV→Option MV:=bm 264 (nv jZ) FJ
theorem yQ:aq Tryz.prog cx wa:=lY FK [] 6 [] [] [] Tryz.func264 (by kernel_rfl) (dw (fun _=>by kernel_rfl))
noncomputable def ku (x y:MV):Option MV:=
 gS x fun x1=>
 gS y fun y1=>
 bd (jZ (.s x1)) fun rA=>
 gB rA fun x2=>
 bd (jZ (.s y1)) fun aY=>
 gB aY fun x3=>
 a8 x2 (
 a8 x3 (
 some (.i .i64 0)) (
 some (.i .i64 (-1)))) (
 a8 x3 (
 some (.i .i64 1)) (
 a8 (Op.bytesLess x1 y1) (
 some (.i .i64 (-1))) (
 a8 (!(Op.bytesLess x1 y1||decide (x1=y1))) (
 some (.i .i64 1)) (
 some (.i .i64 0)))))
noncomputable def sS:Nat→List MV→Option MV:=bm 240 (fG ku) wa
theorem wC:aq Tryz.prog cx sS:=lY yQ [] 20 [] [] [] Tryz.func240 (by kernel_rfl) (bD (fun _ _=>by kernel_rfl))
noncomputable def iC (s1 s2:MV):Option MV:=
 gL s1 fun rE=>
 gL s2 fun wD=>
 bG rE fun len=>
 bd (Loop (fun jm=>
 gC jm fun m gw=>
 gI .i64 m fun x=>
 gN gw<|
 a8 (decide (x<(len:Int))) (
 idx rE x fun y=>
 gS y fun x1=>
 bG wD fun eW=>
 a8 (decide ((eW:Int)≤x)) (
 some (.inr (1,[.i .i64 1]))) (
 idx wD x fun y1=>
 gS y1 fun x2=>
 bd (ku (.s x1) (.s x2)) fun rA=>
 gI .i64 rA fun x3=>
 a8 (!decide (x3=0)) (
 some (.inr (1,[.i .i64 x3]))) (
 some (.inl [.i .i64 (IntKind.wrap .i64 (x+1))])))) (
 some (.inr (2,[])))) [.i .i64 0]) fun p=>
 a8 (Nat.beq p.1 2) (
 gN p.2<|
 bG rE fun gY=>
 bG wD fun ru=>
 a8 (decide ((gY:Int)<(ru:Int))) (
 some (.i .i64 (-1))) (
 some (.i .i64 0))) (
 cR (Nat.beq p.1 1)<|
 gC p.2 fun m1 kg=>
 gI .i64 m1 fun x4=>
 gN kg<|
 some (.i .i64 x4))
noncomputable def pA:Nat→List MV→Option MV:=bm 202 (fG iC) sS
theorem tz:aq Tryz.prog cx pA:=lY wC [] 36 [] [] [(2,⟨[0,1,9,10],[],[(11,.sc (.k (.i .i64)))],[(1,[(4,.sc (.k (.i .i64)))]),(2,[])],[]⟩)] Tryz.func202 (by kernel_rfl) (bD (fun _ _=>by kernel_rfl))
noncomputable def vr (p q:MV):Option MV:=
 gS p fun p1=>
 gS q fun q1=>
 bd (jH (.s p1)) fun rA=>
 gT rA fun vs=>
 Vi vs fun x x1=>
 bd (jH (.s q1)) fun aY=>
 gT aY fun j8=>
 Vi j8 fun x2 x3=>
 bd (
 a8 x1 (
 a8 x3 (
 bd (iC (.list x) (.list x2)) fun cX=>
 gI .i64 cX fun x4=>
 some [.b (decide (x4<0))]) (
 some [.b false])) (
 some [.b false])) fun ql=>
 gC ql fun m4 mP=>
 gB m4 fun x5=>
 gN mP<|
 some (.b x5)
noncomputable def FL:Nat→List MV→Option MV:=bm 146 (fG vr) pA
theorem FM:aq Tryz.prog cx FL:=lY tz [] 29 [(3,⟨[5,6,7,8],[],[],[(0,[(4,.sc (.k .b))])],[]⟩)] [] [] Tryz.func146 (by kernel_rfl) (bD (fun _ _=>by kernel_rfl))
noncomputable def jI (n p:MV):Option MV:=
 gA n fun cs=>
 jX .i64 .i64 cs fun Path Value Version bI=>
 gS p fun p1=>
 a8 (decide (Path=p1)) (
 some (.i .i64 0)) (
 bd (vr (.s Path) (.s p1)) fun rA=>
 gB rA fun x=>
 a8 x (
 some (.i .i64 (-1))) (
 some (.i .i64 1)))
noncomputable def mS:Nat→List MV→Option MV:=bm 245 (fG jI) FL
theorem vt:aq Tryz.prog cx mS:=lY FM [] 15 [] [] [] Tryz.func245 (by kernel_rfl) (bD (fun _ _=>by kernel_rfl))
noncomputable def cj:Nat→List MV→Option MV:=mS
theorem fA (x0 x1:MV):cj 245 [x0,x1]=jI x0 x1:=by kernel_rfl
noncomputable def cz (x target cmp:MV):Option MV:=
 gL x fun x1=>
 gS target fun sO=>
 gR cmp fun Mk=>
 bG x1 fun len=>
 bd (Loop (fun jm=>
 L7 .i64 .i64 jm fun i j=>
 a8 (decide (i<j)) (
 cR (decide ((0:Int)≤1))<|
 idx x1 (IntKind.wrap .i64 (Int.fdiv (IntKind.wrap .u64 (IntKind.wrap .i64 (i+j))) (2^min (Int.toNat 1) (IntKind.bits .u64)))) fun y=>
 gA y fun cs=>
 jX .i64 .i64 cs fun Path Value Version bI=>
 Na Mk fun fn cap=>
 cR (!gv fn)<|
 bd (cj fn ([.agg (ml Path Value Version bI),.s sO]++cap)) fun rA=>
 gI .i64 rA fun x2=>
 bd (
 a8 (decide (x2<0)) (
 some (0,[.i .i64 (IntKind.wrap .i64 ((IntKind.wrap .i64 (Int.fdiv (IntKind.wrap .u64 (IntKind.wrap .i64 (i+j))) (2^min (Int.toNat 1) (IntKind.bits .u64))))+1)),.i .i64 j])) (
 some (0,[.i .i64 i,.i .i64 (IntKind.wrap .i64 (Int.fdiv (IntKind.wrap .u64 (IntKind.wrap .i64 (i+j))) (2^min (Int.toNat 1) (IntKind.bits .u64))))]))) fun p1=>
 cR (Nat.beq p1.1 0)<|
 L7 .i64 .i64 p1.2 fun i1 j1=>
 some (.inl [.i .i64 i1,.i .i64 j1])) (
 some (.inr (2,[.i .i64 i])))) [.i .i64 0,.i .i64 (len:Int)]) fun p=>
 cR (Nat.beq p.1 2)<|
 gC p.2 fun m8 FE=>
 gI .i64 m8 fun i2=>
 gN FE<|
 bd (
 a8 (decide (i2<(len:Int))) (
 idx x1 i2 fun y1=>
 gA y1 fun fU=>
 jX .i64 .i64 fU fun gV dS b8 vl=>
 Na Mk fun Ad r5=>
 cR (!gv Ad)<|
 bd (cj Ad ([.agg (ml gV dS b8 vl),.s sO]++r5)) fun aY=>
 gI .i64 aY fun x3=>
 some [.i .i64 i2,.b (decide (x3=0))]) (
 some [.i .i64 i2,.b false])) fun vs=>
 Oq .i64 vs fun x4 x5=>
 some (.cK [.i .i64 x4,.b x5])
noncomputable def fB:Nat→List MV→Option MV:=bm 244 (Fj cz) mS
theorem jJ:aq Tryz.prog cx fB:=lY vt [] 49 [(8,⟨[0,1,2,8,9],[],[],[(0,[(6,.sc (.k (.i .i64))),(7,.sc (.k .b))])],[]⟩)] [(6,⟨[0,1,2,8,11],[],[],[(0,[(9,.sc (.k (.i .i64))),(10,.sc (.k (.i .i64)))])],[]⟩)] [(3,⟨[0,1,2,8],[],[(9,.sc (.k (.i .i64))),(10,.sc (.k (.i .i64)))],[(2,[(9,.sc (.k (.i .i64)))])],[]⟩)] Tryz.func244 (by kernel_rfl) (qq (fun _ _ _=>by kernel_rfl))
noncomputable def jh (sA p:MV):Option MV:=
 gA sA fun cs=>
 gC cs fun m jm=>
 gL m fun L=>
 gN jm<|
 gS p fun p1=>
 bd (cz (.list L) (.s p1) (.func 245 [])) fun rA=>
 gT rA fun vs=>
 Oq .i64 vs fun x x1=>
 some (.cK [.i .i64 x,.b x1])
noncomputable def ur:Nat→List MV→Option MV:=bm 216 (fG jh) fB
theorem xt:aq Tryz.prog cx ur:=lY jJ [] 12 [] [] [] Tryz.func216 (by kernel_rfl) (bD (fun _ _=>by kernel_rfl))
noncomputable def kW (p:MV):Option MV:=
 gS p fun p1=>
 bd (jH (.s p1)) fun rA=>
 gT rA fun vs=>
 Vi vs fun x x1=>
 some (.b x1)
noncomputable def FN:Nat→List MV→Option MV:=bm 73 (nv kW) ur
theorem FO:aq Tryz.prog cx FN:=lY xt [] 11 [] [] [] Tryz.func73 (by kernel_rfl) (dw (fun _=>by kernel_rfl))
noncomputable def ec (sA c:MV):Option MV:=
 gS sA fun lZ=>
 gI .u8 c fun c1=>
 bd (Loop (fun jm=>
 gC jm fun m gw=>
 gI .i64 m fun i=>
 gN gw<|
 a8 (decide ((0:Int)≤i)) (
 cR (decide ((0:Int)≤i∧i<(lZ.length:Int)))<|
 a8 (decide (((lZ.getD (Int.toNat i) 0).toNat:Int)=c1)) (
 some (.inr (1,[.i .i64 i]))) (
 some (.inl [.i .i64 (IntKind.wrap .i64 (i-1))]))) (
 some (.inr (2,[])))) [.i .i64 (IntKind.wrap .i64 ((lZ.length:Int)-1))]) fun p=>
 a8 (Nat.beq p.1 2) (
 gN p.2<|
 some (.i .i64 (-1))) (
 cR (Nat.beq p.1 1)<|
 gC p.2 fun m1 kg=>
 gI .i64 m1 fun x=>
 gN kg<|
 some (.i .i64 x))
noncomputable def kv:Nat→List MV→Option MV:=bm 198 (fG ec) FN
theorem nW:aq Tryz.prog cx kv:=lY FO [] 19 [] [] [(2,⟨[0,1],[],[(5,.sc (.k (.i .i64)))],[(1,[(4,.sc (.k (.i .i64)))]),(2,[])],[]⟩)] Tryz.func198 (by kernel_rfl) (bD (fun _ _=>by kernel_rfl))
noncomputable def e8 (sep:MV):Option MV:=
 gS sep fun YP=>
 bd (Loop (fun jm=>
 L7 .u32 .i64 jm fun hash i=>
 a8 (decide ((0:Int)≤i)) (
 cR (decide ((0:Int)≤i∧i<(YP.length:Int)))<|
 some (.inl [.i .u32 (IntKind.wrap .u32 ((IntKind.wrap .u32 (hash *16777619))+(IntKind.wrap .u32 ((YP.getD (Int.toNat i) 0).toNat:Int)))),.i .i64 (IntKind.wrap .i64 (i-1))])) (
 some (.inr (2,[.i .u32 hash])))) [.i .u32 0,.i .i64 (IntKind.wrap .i64 ((YP.length:Int)-1))]) fun p=>
 cR (Nat.beq p.1 2)<|
 gC p.2 fun m2 pS=>
 gI .u32 m2 fun agv=>
 gN pS<|
 bd (Loop (fun mP=>
 B7 .u32 .u32 .i64 mP fun pow sq i1=>
 a8 (decide ((0:Int)<i1)) (
 none) (
 some (.inr (4,[.i .u32 pow])))) [.i .u32 1,.i .u32 16777619,.i .i64 (YP.length:Int)]) fun p1=>
 cR (Nat.beq p1.1 4)<|
 gC p1.2 fun m6 ox=>
 gI .u32 m6 fun aky=>
 gN ox<|
 some (.cK [.i .u32 agv,.i .u32 aky])
noncomputable def mq:Nat→List MV→Option MV:=bm 239 (nv e8) kv
theorem pU:aq Tryz.prog cx mq:=lY nW [] 40 [] [(11,⟨[4,7,8],[],[],[(0,[(6,.sc (.k (.i .u32)))])],[]⟩)] [(8,⟨[4],[],[(6,.sc (.k (.i .u32))),(7,.sc (.k (.i .u32))),(8,.sc (.k (.i .i64)))],[(4,[(6,.sc (.k (.i .u32)))])],[]⟩),(3,⟨[0],[],[(4,.sc (.k (.i .u32))),(5,.sc (.k (.i .i64)))],[(2,[(4,.sc (.k (.i .u32)))])],[]⟩)] Tryz.func239 (by kernel_rfl) (dw (fun _=>by kernel_rfl))
noncomputable def dh (a a1:MV):Option MV:=
 gS a fun a2=>
 gS a1 fun uu=>
 bd (e8 (.s uu)) fun rA=>
 gT rA fun vs=>
 L7 .u32 .u32 vs fun x x1=>
 bd (Loop (fun kg=>
 L7 .u32 .i64 kg fun x2 x3=>
 a8 (decide ((IntKind.wrap .i64 ((a2.length:Int)-(uu.length:Int)))≤x3)) (
 cR (decide ((0:Int)≤x3∧x3<(a2.length:Int)))<|
 some (.inl [.i .u32 (IntKind.wrap .u32 ((IntKind.wrap .u32 (x2 *16777619))+(IntKind.wrap .u32 ((a2.getD (Int.toNat x3) 0).toNat:Int)))),.i .i64 (IntKind.wrap .i64 (x3-1))])) (
 some (.inr (2,[.i .u32 x2])))) [.i .u32 0,.i .i64 (IntKind.wrap .i64 ((a2.length:Int)-1))]) fun p=>
 cR (Nat.beq p.1 2)<|
 gC p.2 fun m4 nF=>
 gI .u32 m4 fun x4=>
 gN nF<|
 bd (
 a8 (decide (x4=x)) (
 cR (decide ((0:Int)≤(IntKind.wrap .i64 ((a2.length:Int)-(uu.length:Int)))∧(IntKind.wrap .i64 ((a2.length:Int)-(uu.length:Int)))≤(a2.length:Int)∧(a2.length:Int)≤(a2.length:Int)))<|
 some [.b (decide ((List.drop (Int.toNat (IntKind.wrap .i64 ((a2.length:Int)-(uu.length:Int)))) (List.take (Int.toNat (a2.length:Int)) a2))=uu))]) (
 some [.b false])) fun j8=>
 gC j8 fun m5 tu=>
 gB m5 fun x5=>
 gN tu<|
 a8 x5 (
 some (.i .i64 (IntKind.wrap .i64 ((a2.length:Int)-(uu.length:Int))))) (
 bd (Loop (fun pQ=>
 L7 .u32 .i64 pQ fun x6 x7=>
 a8 (decide ((0:Int)≤x7)) (
 cR (decide ((0:Int)≤x7∧x7<(a2.length:Int)))<|
 cR (decide ((0:Int)≤(IntKind.wrap .i64 (x7+(uu.length:Int)))∧(IntKind.wrap .i64 (x7+(uu.length:Int)))<(a2.length:Int)))<|
 bd (
 a8 (decide ((IntKind.wrap .u32 ((IntKind.wrap .u32 ((IntKind.wrap .u32 (x6 *16777619))+(IntKind.wrap .u32 ((a2.getD (Int.toNat x7) 0).toNat:Int))))-(IntKind.wrap .u32 (x1 *(IntKind.wrap .u32 ((a2.getD (Int.toNat (IntKind.wrap .i64 (x7+(uu.length:Int)))) 0).toNat:Int))))))=x)) (
 cR (decide ((0:Int)≤x7∧x7≤(IntKind.wrap .i64 (x7+(uu.length:Int)))∧(IntKind.wrap .i64 (x7+(uu.length:Int)))≤(a2.length:Int)))<|
 some [.b (decide ((List.drop (Int.toNat x7) (List.take (Int.toNat (IntKind.wrap .i64 (x7+(uu.length:Int)))) a2))=uu))]) (
 some [.b false])) fun ql=>
 gC ql fun m8 um=>
 gB m8 fun x8=>
 gN um<|
 a8 x8 (
 some (.inr (1,[.i .i64 x7]))) (
 some (.inl [.i .u32 (IntKind.wrap .u32 ((IntKind.wrap .u32 ((IntKind.wrap .u32 (x6 *16777619))+(IntKind.wrap .u32 ((a2.getD (Int.toNat x7) 0).toNat:Int))))-(IntKind.wrap .u32 (x1 *(IntKind.wrap .u32 ((a2.getD (Int.toNat (IntKind.wrap .i64 (x7+(uu.length:Int)))) 0).toNat:Int)))))),.i .i64 (IntKind.wrap .i64 (x7-1))]))) (
 some (.inr (4,[])))) [.i .u32 x4,.i .i64 (IntKind.wrap .i64 ((IntKind.wrap .i64 ((a2.length:Int)-(uu.length:Int)))-1))]) fun p1=>
 a8 (Nat.beq p1.1 4) (
 gN p1.2<|
 some (.i .i64 (-1))) (
 cR (Nat.beq p1.1 1)<|
 gC p1.2 fun m9 ul=>
 gI .i64 m9 fun x9=>
 gN ul<|
 some (.i .i64 x9)))
noncomputable def iD:Nat→List MV→Option MV:=bm 199 (fG dh) mq
theorem lU:aq Tryz.prog cx iD:=lY pU [] 87 [(17,⟨[0,1,5,6,7,9,11],[],[],[(0,[(85,.sc (.k .b))])],[]⟩),(9,⟨[0,1,5,6,7,8,9],[],[],[(0,[(47,.sc (.k .b))])],[]⟩)] [] [(12,⟨[0,1,5,6,7],[],[(9,.sc (.k (.i .u32))),(11,.sc (.k (.i .i64)))],[(1,[(4,.sc (.k (.i .i64)))]),(4,[])],[]⟩),(6,⟨[0,1,5,6,7,8],[],[(9,.sc (.k (.i .u32))),(10,.sc (.k (.i .i64)))],[(2,[(9,.sc (.k (.i .u32)))])],[]⟩)] Tryz.func199 (by kernel_rfl) (bD (fun _ _=>by kernel_rfl))
noncomputable def kw (sA substr:MV):Option MV:=
 gS sA fun lZ=>
 gS substr fun sU=>
 a8 (decide ((sU.length:Int)=0)) (
 some (.i .i64 (lZ.length:Int))) (
 a8 (decide ((sU.length:Int)=1)) (
 cR (decide ((0:Int)≤0∧(0:Int)<(sU.length:Int)))<|
 bd (ec (.s lZ) (.i .u8 ((sU.getD (Int.toNat 0) 0).toNat:Int))) fun rA=>
 gI .i64 rA fun x=>
 some (.i .i64 x)) (
 a8 (decide ((sU.length:Int)=(lZ.length:Int))) (
 a8 (decide (sU=lZ)) (
 some (.i .i64 0)) (
 some (.i .i64 (-1)))) (
 a8 (decide ((lZ.length:Int)<(sU.length:Int))) (
 some (.i .i64 (-1))) (
 bd (dh (.s lZ) (.s sU)) fun aY=>
 gI .i64 aY fun x1=>
 some (.i .i64 x1)))))
noncomputable def sV:Nat→List MV→Option MV:=bm 138 (fG kw) iD
theorem wE:aq Tryz.prog cx sV:=lY lU [] 36 [] [] [] Tryz.func138 (by kernel_rfl) (bD (fun _ _=>by kernel_rfl))
noncomputable def pB (p:MV):Option MV:=
 gS p fun p1=>
 bd (kW (.s p1)) fun rA=>
 gB rA fun x=>
 a8 (!x) (
 some (.cK [.s ([]:List UInt8),.i .i64 13])) (
 a8 (decide (p1=([47]:List UInt8))) (
 some (.cK [.s ([]:List UInt8),.i .i64 6])) (
 bd (kw (.s p1) (.s ([47]:List UInt8))) fun aY=>
 gI .i64 aY fun x1=>
 cR (decide ((0:Int)≤0∧(0:Int)≤(imax 1 x1)∧(imax 1 x1)≤(p1.length:Int)))<|
 some (.cK [.s (List.drop (Int.toNat 0) (List.take (Int.toNat (imax 1 x1)) p1)),.i .i64 0])))
noncomputable def C6:Nat→List MV→Option MV:=bm 74 (nv pB) sV
theorem DA:aq Tryz.prog cx C6:=lY wE [] 16 [] [] [] Tryz.func74 (by kernel_rfl) (dw (fun _=>by kernel_rfl))
noncomputable def ic (sA p:MV):Option MV:=
 gA sA fun cs=>
 gC cs fun m jm=>
 gL m fun L=>
 gN jm<|
 gS p fun p1=>
 bd (kW (.s p1)) fun rA=>
 gB rA fun x=>
 a8 (!x) (
 some (.cK [.i .i64 0,.i .i64 13])) (
 bd (jh (.agg [.list L]) (.s p1)) fun aY=>
 gT aY fun vs=>
 Oq .i64 vs fun x1 x2=>
 a8 (!x2) (
 some (.cK [.i .i64 0,.i .i64 6])) (
 some (.cK [.i .i64 x1,.i .i64 0])))
noncomputable def wb:Nat→List MV→Option MV:=bm 220 (fG ic) C6
theorem yR:aq Tryz.prog cx wb:=lY DA [] 20 [] [] [] Tryz.func220 (by kernel_rfl) (bD (fun _ _=>by kernel_rfl))
noncomputable def qJ (sA p:MV):Option MV:=
 gA sA fun cs=>
 gC cs fun m jm=>
 gL m fun L=>
 gN jm<|
 gS p fun p1=>
 bd (ic (.agg [.list L]) (.s p1)) fun rA=>
 gT rA fun vs=>
 L7 .i64 .i64 vs fun x x1=>
 a8 (!decide (x1=0)) (
 some (.cK [.agg (ml ([]:List UInt8) ([]:List UInt8) 0 0),.i .i64 x1])) (
 idx L x fun y=>
 gA y fun fU=>
 jX .i64 .i64 fU fun Path Value Version bI=>
 some (.cK [.agg (ml Path Value Version bI),.i .i64 0]))
noncomputable def IW:Nat→List MV→Option MV:=bm 172 (fG qJ) wb
theorem Hz:aq Tryz.prog cx IW:=lY yR [] 23 [] [] [] Tryz.func172 (by kernel_rfl) (bD (fun _ _=>by kernel_rfl))
noncomputable def nK (c c1 c2 c3 c4:MV):Option MV:=
 gP c fun cs=>
 gC cs fun m jm=>
 gS m fun x=>
 gN jm<|
 gP c1 fun fU=>
 gC fU fun m1 gw=>
 gB m1 fun x1=>
 gN gw<|
 gP c2 fun qE=>
 gC qE fun m2 kg=>
 gL m2 fun L=>
 gN kg<|
 gP c3 fun od=>
 gC od fun m3 pS=>
 gS m3 fun x2=>
 gN pS<|
 gP c4 fun Vz=>
 gC Vz fun m4 mP=>
 gI .i64 m4 fun x3=>
 gN mP<|
 bd (kW (.s x)) fun rA=>
 gB rA fun x4=>
 a8 (!x4) (
 some (.i .i64 13)) (
 a8 x1 (
 some (.i .i64 7)) (
 bd (pB (.s x)) fun aY=>
 gT aY fun vs=>
 gC vs fun m5 nF=>
 gS m5 fun x5=>
 gC nF fun m6 tu=>
 gI .i64 m6 fun x6=>
 gN tu<|
 bd (qJ (.agg [.list L]) (.s x5)) fun cX=>
 gT cX fun j8=>
 gC j8 fun m7 pQ=>
 gA m7 fun cs5=>
 jX .i64 .i64 cs5 fun Path Value Version bI=>
 gC pQ fun Yt A4=>
 gI .i64 Yt fun x7=>
 gN A4<|
 a8 (!decide (x7=0)) (
 some (.i .i64 6)) (
 a8 (!decide (bI=0)) (
 some (.i .i64 10)) (
 a8 (decide ((1000:Int)<(x2.length:Int))) (
 some (.i .i64 5)) (
 a8 (decide (x3<0)) (
 some (.i .i64 1)) (
 bG L fun len=>
 a8 (decide ((200:Int)≤(len:Int))) (
 some (.i .i64 9)) (
 some (.i .i64 0))))))))
noncomputable def xu:Nat→List MV→Option MV:=bm 217 (abW nK) IW
theorem zO:aq Tryz.prog cx xu:=lY Hz [[.s],[.b],[.l],[.s],[.i .i64]] 44 [] [] [] Tryz.func217 (by kernel_rfl) (Yj (fun _ _ _ _ _=>by kernel_rfl))
noncomputable def qv (sA p value owner:MV):Option MV:=
 gA sA fun cs=>
 gC cs fun m jm=>
 gL m fun L=>
 gN jm<|
 gS p fun p1=>
 gS value fun xv=>
 gI .i64 owner fun Cc=>
 bd (jh (.agg [.list L]) (.s p1)) fun rA=>
 gT rA fun vs=>
 Oq .i64 vs fun x x1=>
 bd (nK (.rp [.s p1]) (.rp [.b x1]) (.rp [.list L]) (.rp [.s xv]) (.rp [.i .i64 Cc])) fun aY=>
 gI .i64 aY fun x2=>
 a8 (!decide (x2=0)) (
 some (.cK [.agg [.list L],.i .i64 x2])) (
 both (
 bd (fX 4 48 [.list L]) fun cX=>
 gF cX fun xs=>
 bd (jA 48 [.fresh xs,.i .i64 x,.fresh ([.agg (ml p1 xv 0 Cc)]:List MV)]) fun oo=>
 gF oo fun GZ=>
 some (.cK [.agg [.list GZ],.i .i64 0])) (
 bd (fX 4 48 [.list L]) fun AO=>
 gF AO fun VF=>
 bd (jA 48 [.fresh VF,.i .i64 x,.fresh ([.agg (ml p1 xv 0 Cc)]:List MV)]) fun tt=>
 gF tt fun xs3=>
 some (.cK [.agg [.list xs3],.i .i64 0])))
noncomputable def Ba:Nat→List MV→Option MV:=bm 170 (Yi qv) xu
theorem Cd:aq Tryz.prog cx Ba:=AQ zO [] [] 38 [] [] [] [(6,[0,1,3,4,5,6,7,2,8,9,10,11,12,0,1,3,4,5,6,7,8,2,9,10,11,12,2,8])] [] [] [] [] Tryz.func170 (by kernel_rfl) (P6 (fun _ _ _ _=>by kernel_rfl))
noncomputable def eX (w:List MV) (kind:MV):Option MV:=
 gI .i64 kind fun aaz=>
 aA .i64 .i64 .i64 .i64 .i64 .i64 .i64 .i64 .i64 .i64 .i64 w fun cB b9 dP cV gX cI mn fS en dx bY bL fK cC lF xE dC ca dD lA=>
 bd (
 a8 (decide (xE=0)) (
 bG lA fun len=>
 bG ([.agg [.i .i64 aaz,.s en]]:List MV) fun eW=>
 cR (decide ((len+eW) *24≤2^46))<|
 some (0,(ar cB b9 dP cV gX cI mn fS en dx bY bL fK cC lF xE dC ca dD (lA++([.agg [.i .i64 aaz,.s en]]:List MV))))) (
 some (0,(ar cB b9 dP cV gX cI mn fS en dx bY bL fK cC lF xE dC ca dD lA)))) fun p=>
 cR (Nat.beq p.1 0)<|
 aA .i64 .i64 .i64 .i64 .i64 .i64 .i64 .i64 .i64 .i64 .i64 p.2 fun x x1 x2 x3 x4 x5 x6 x7 x8 x9 zo BD C0 B8 Dw Dx Fq Fs Ft xs=>
 some (.ej (.cK []) (ar x x1 x2 x3 x4 x5 x6 x7 x8 x9 zo BD C0 B8 Dw Dx Fq Fs Ft xs))
noncomputable def rF:Nat→List MV→Option MV:=bm 171 (cl2 eX) Ba
theorem vu:aq Tryz.prog cx rF:=M6 Cd 0 jr [] [(0,1000000)] 26 [22] [] [] [(1,[0,1,2,3,4,5,6,7,8,9,10,11,12,13,14,15,16])] [] [(1,⟨[0,1],[],[],[(0,[(1000000,.box [.k .l,.k (.i .i64),.k .l,.k .l,.k .l,.k (.i .i64),.k (.i .i64),.k (.i .i64),.k .s,.k .s,.k (.i .i64),.k (.i .i64),.k (.i .i64),.k (.i .i64),.k (.i .i64),.k (.i .i64),.k .s,.k (.i .i64),.k .l,.own 2000019 77 false])])],[22]⟩)] [] [] Tryz.func171 (by kernel_rfl) (by kernel_rfl) (Vw fun _ _=>by kernel_rfl)
noncomputable def kz (w:List MV):Option MV:=
 aA .i64 .i64 .i64 .i64 .i64 .i64 .i64 .i64 .i64 .i64 .i64 w fun cB b9 dP cV gX cI mn fS en dx bY bL fK cC lF xE dC ca dD lA=>
 bd (
 a8 (!decide (bL=0)) (
 bd (yu (.agg [.i .i64 b9,.list dP]) (.i .i64 bL)) fun rA=>
 gB rA fun x=>
 some [.b (!x)]) (
 some [.b false])) fun vs=>
 gC vs fun AR jf=>
 gB AR fun x1=>
 gN jf<|
 a8 x1 (
 some (.ej (.cK []) (ar cB b9 dP cV gX cI mn fS en dx bY bL fK cC lF 14 dC ca dD lA))) (
 bd (qv (.agg [.list cB]) (.s en) (.s dx) (.i .i64 bL)) fun aY=>
 gT aY fun j8=>
 gC j8 fun Ox rz=>
 gA Ox fun cs=>
 gC cs fun RS pv=>
 gL RS fun L=>
 gN pv<|
 gC rz fun RT rv=>
 gI .i64 RT fun x2=>
 gN rv<|
 bd (eX (ar L b9 dP cV gX cI mn fS en dx bY bL fK cC lF x2 dC ca dD lA) (.i .i64 1)) fun cX=>
 gW cX fun x3 ls=>
 aA .i64 .i64 .i64 .i64 .i64 .i64 .i64 .i64 .i64 .i64 .i64 ls fun kX kb oT mr tA mu zp tB rG oU kc ke tC mw zq VK oV lG oW AY=>
 some (.ej (.cK []) (ar kX kb oT mr tA mu zp tB rG oU kc ke tC mw zq VK oV lG oW AY)))
noncomputable def sW:Nat→List MV→Option MV:=bm 106 (RR kz) rF
theorem wF:aq Tryz.prog cx sW:=M6 vu 0 jr [] [(0,1000000)] 60 [] [] [] [(0,[0,1,2,3,4,5,6,7,8,9,10,11,12,13,14,15,16,17,18,19]),(2,[0,1,2,3,4,5,6,7,8,9,10,11,12,13,14,15,16,17,18,19,20,21,22,23,24,25,26,27,28,29,30,31,32,33])] [(0,⟨[0,1000000],[2000019],[],[(0,[(21,.sc (.k .b))])],[]⟩)] [] [] [] Tryz.func106 (by kernel_rfl) (by kernel_rfl) (rr fun _=>by kernel_rfl)
noncomputable def nL (w:List MV):Option MV:=
 aA .i64 .i64 .i64 .i64 .i64 .i64 .i64 .i64 .i64 .i64 .i64 w fun cB b9 dP cV gX cI mn fS en dx bY bL fK cC lF xE dC ca dD lA=>
 bd (qJ (.agg [.list cB]) (.s en)) fun rA=>
 gT rA fun vs=>
 gC vs fun AR jf=>
 gA AR fun cs=>
 jX .i64 .i64 cs fun Path Value Version bI=>
 gC jf fun m25 A6=>
 gI .i64 m25 fun x=>
 gN A6<|
 some (.ej (.cK []) (ar cB b9 dP cV gX cI mn fS en dx bY bL fK cC lF x Value Version dD lA))
noncomputable def xw:Nat→List MV→Option MV:=bm 107 (RR nL) sW
theorem zP:aq Tryz.prog cx xw:=M6 wF 0 jr [] [(0,1000000)] 35 [] [24] [(1,[2])] [(0,[0,1,2,3,4,5,6,7,8,9,10,11,12,13,14,15,16]),(1,[0,1,2,3,4,5,6,7,8,9,10,11,12,13,14,15,16,17,18,19])] [] [] [] [] Tryz.func107 (by kernel_rfl) (by kernel_rfl) (rr fun _=>by kernel_rfl)
noncomputable def fC (sA p version:MV):Option MV:=
 gA sA fun cs=>
 gC cs fun m jm=>
 gL m fun L=>
 gN jm<|
 gS p fun p1=>
 gI .i64 version fun uv=>
 bd (ic (.agg [.list L]) (.s p1)) fun rA=>
 gT rA fun vs=>
 L7 .i64 .i64 vs fun x x1=>
 bd (
 a8 (decide (x1=0)) (
 a8 (!decide (uv=(-1))) (
 idx L x fun y=>
 gA y fun fU=>
 jX .i64 .i64 fU fun Path Value Version bI=>
 some [.b (!decide (uv=Version))]) (
 some [.b false])) (
 some [.b false])) fun j8=>
 gC j8 fun m7 pQ=>
 gB m7 fun x2=>
 gN pQ<|
 a8 x2 (
 some (.cK [.i .i64 x,.i .i64 8])) (
 some (.cK [.i .i64 x,.i .i64 x1]))
noncomputable def pC:Nat→List MV→Option MV:=bm 221 (Fj fC) xw
theorem tD:aq Tryz.prog cx pC:=lY zP [] 35 [(2,⟨[2,3,8,9],[],[],[(0,[(31,.sc (.k .b))])],[]⟩)] [] [] Tryz.func221 (by kernel_rfl) (qq (fun _ _ _=>by kernel_rfl))
noncomputable def yv (sA p value version:MV):Option MV:=
 gA sA fun cs=>
 gC cs fun m jm=>
 gL m fun L=>
 gN jm<|
 gS p fun p1=>
 gS value fun xv=>
 gI .i64 version fun uv=>
 bd (fC (.agg [.list L]) (.s p1) (.i .i64 uv)) fun rA=>
 gT rA fun vs=>
 L7 .i64 .i64 vs fun x x1=>
 a8 (!decide (x1=0)) (
 some (.cK [.agg [.list L],.i .i64 x1])) (
 a8 (decide ((1000:Int)<(xv.length:Int))) (
 some (.cK [.agg [.list L],.i .i64 5])) (
 idx L x fun y=>
 gA y fun fU=>
 jX .i64 .i64 fU fun Path Value Version bI=>
 a8 (decide ((1000000000:Int)≤Version)) (
 some (.cK [.agg [.list L],.i .i64 9])) (
 bd (fX 4 48 [.list L]) fun aY=>
 gF aY fun xs=>
 idx xs x fun y1=>
 gA y1 fun qE=>
 jX .i64 .i64 qE fun gV dS b8 vl=>
 idx (xs.set (Int.toNat x) (.agg (ml gV xv b8 vl))) x fun y2=>
 gA y2 fun od=>
 jX .i64 .i64 od fun L9 B9 uk VD=>
 idx (xs.set (Int.toNat x) (.agg (ml gV xv b8 vl))) x fun y3=>
 gA y3 fun Vz=>
 jX .i64 .i64 Vz fun agw Ou Ma acv=>
 some (.cK [.agg [.list ((xs.set (Int.toNat x) (.agg (ml gV xv b8 vl))).set (Int.toNat x) (.agg (ml agw Ou (IntKind.wrap .i64 (uk+1)) acv)))],.i .i64 0]))))
noncomputable def IX:Nat→List MV→Option MV:=bm 173 (Yi yv) pC
theorem HA:aq Tryz.prog cx IX:=lY tD [] 59 [] [] [] Tryz.func173 (by kernel_rfl) (P6 (fun _ _ _ _=>by kernel_rfl))
noncomputable def nM (w:List MV):Option MV:=
 aA .i64 .i64 .i64 .i64 .i64 .i64 .i64 .i64 .i64 .i64 .i64 w fun cB b9 dP cV gX cI mn fS en dx bY bL fK cC lF xE dC ca dD lA=>
 bd (yv (.agg [.list cB]) (.s en) (.s dx) (.i .i64 bY)) fun rA=>
 gT rA fun vs=>
 gC vs fun AR jf=>
 gA AR fun cs=>
 gC cs fun Ox rz=>
 gL Ox fun L=>
 gN rz<|
 gC jf fun RS pv=>
 gI .i64 RS fun x=>
 gN pv<|
 bd (eX (ar L b9 dP cV gX cI mn fS en dx bY bL fK cC lF x dC ca dD lA) (.i .i64 2)) fun aY=>
 gW aY fun x1 ls=>
 aA .i64 .i64 .i64 .i64 .i64 .i64 .i64 .i64 .i64 .i64 .i64 ls fun kX kb oT mr tA mu zp tB rG oU kc ke tC mw zq VK oV lG oW AY=>
 bd (
 a8 (decide (VK=0)) (
 bd (qJ (.agg [.list kX]) (.s rG)) fun cX=>
 gT cX fun j8=>
 gC j8 fun m43 Mm=>
 gA m43 fun fU=>
 jX .i64 .i64 fU fun Path Value Version bI=>
 gC Mm fun m48 VI=>
 gI .i64 m48 fun x2=>
 gN VI<|
 some (0,(ar kX kb oT mr tA mu zp tB rG oU kc ke tC mw zq VK oV Version oW AY))) (
 some (0,(ar kX kb oT mr tA mu zp tB rG oU kc ke tC mw zq VK oV lG oW AY)))) fun p=>
 cR (Nat.beq p.1 0)<|
 aA .i64 .i64 .i64 .i64 .i64 .i64 .i64 .i64 .i64 .i64 .i64 p.2 fun x3 x4 x5 x6 x7 x8 x9 zo BD C0 B8 Dw Dx Fq Fs Ft Fu M8 SV xs=>
 some (.ej (.cK []) (ar x3 x4 x5 x6 x7 x8 x9 zo BD C0 B8 Dw Dx Fq Fs Ft Fu M8 SV xs))
noncomputable def xx:Nat→List MV→Option MV:=bm 108 (RR nM) IX
theorem zQ:aq Tryz.prog cx xx:=M6 HA 0 jr [] [(0,1000000)] 64 [] [] [] [(0,[0,1,2,3,4,5,6,7,8,9,10,11,12,13,14,15,16,17,18,19,20,21,22,23,24,25,26,27,28,29,30,31,32,33]),(3,[0,1,2,3,4,5,6,7,8,9,10,11,12,13,14,15,16])] [] [(3,⟨[0],[],[],[(0,[(1000000,.box [.k .l,.k (.i .i64),.k .l,.k .l,.k .l,.k (.i .i64),.k (.i .i64),.k (.i .i64),.k .s,.k .s,.k (.i .i64),.k (.i .i64),.k (.i .i64),.k (.i .i64),.k (.i .i64),.k (.i .i64),.k .s,.k (.i .i64),.k .l,.own 2000019 77 false])])],[]⟩)] [] [] Tryz.func108 (by kernel_rfl) (by kernel_rfl) (rr fun _=>by kernel_rfl)
noncomputable def gx (s1 s2:MV):Option MV:=
 gL s1 fun rE=>
 gL s2 fun wD=>
 bG rE fun len=>
 bG wD fun eW=>
 a8 (!decide ((len:Int)=(eW:Int))) (
 some (.b false)) (
 bG rE fun gY=>
 bd (Loop (fun jm=>
 gC jm fun m gw=>
 gI .i64 m fun x=>
 gN gw<|
 a8 (decide (x<(gY:Int))) (
 idx rE x fun y=>
 gS y fun x1=>
 idx wD x fun y1=>
 gS y1 fun x2=>
 a8 (!decide (x1=x2)) (
 some (.inr (1,[.b false]))) (
 some (.inl [.i .i64 (IntKind.wrap .i64 (x+1))]))) (
 some (.inr (2,[])))) [.i .i64 0]) fun p=>
 a8 (Nat.beq p.1 2) (
 gN p.2<|
 some (.b true)) (
 cR (Nat.beq p.1 1)<|
 gC p.2 fun m1 kg=>
 gB m1 fun x3=>
 gN kg<|
 some (.b x3)))
noncomputable def rH:Nat→List MV→Option MV:=bm 142 (fG gx) xx
theorem vv:aq Tryz.prog cx rH:=AQ zQ [] [] 26 [] [] [] [(6,[0,1,2,3,4,5,6,7,8])] [] [] [(4,⟨[0,1,12],[],[(13,.sc (.k (.i .i64)))],[(1,[(4,.sc (.k .b))]),(2,[])],[]⟩)] [] Tryz.func142 (by kernel_rfl) (bD (fun _ _=>by kernel_rfl))
noncomputable def rI (p q:MV):Option MV:=
 gS p fun p1=>
 gS q fun q1=>
 bd (jH (.s p1)) fun rA=>
 gT rA fun vs=>
 Vi vs fun x x1=>
 bd (jH (.s q1)) fun aY=>
 gT aY fun j8=>
 Vi j8 fun x2 x3=>
 bd (
 a8 x1 (
 a8 x3 (
 bG x2 fun len=>
 bG x fun eW=>
 a8 (decide ((eW:Int)<(len:Int))) (
 bG x fun gY=>
 bG x2 fun ru=>
 cR (decide ((0:Int)≤0∧(0:Int)≤(gY:Int)∧(gY:Int)≤(ru:Int)))<|
 bd (gx (.list x) (.list (List.drop (Int.toNat 0) (List.take (Int.toNat (gY:Int)) x2)))) fun cX=>
 gB cX fun x4=>
 some [.b x4]) (
 some [.b false])) (
 some [.b false])) (
 some [.b false])) fun ql=>
 gC ql fun m4 mP=>
 gB m4 fun x5=>
 gN mP<|
 some (.b x5)
noncomputable def FP:Nat→List MV→Option MV:=bm 222 (fG rI) rH
theorem FQ:aq Tryz.prog cx FP:=lY vv [] 38 [(3,⟨[5,6,7,8],[],[],[(0,[(4,.sc (.k .b))])],[]⟩)] [] [] Tryz.func222 (by kernel_rfl) (bD (fun _ _=>by kernel_rfl))
noncomputable def qw (sA p version:MV):Option MV:=
 gA sA fun cs=>
 gC cs fun m jm=>
 gL m fun L=>
 gN jm<|
 gS p fun p1=>
 gI .i64 version fun uv=>
 bd (fC (.agg [.list L]) (.s p1) (.i .i64 uv)) fun rA=>
 gT rA fun vs=>
 L7 .i64 .i64 vs fun x x1=>
 a8 (decide (p1=([47]:List UInt8))) (
 some (.cK [.agg [.list L],.i .i64 13])) (
 a8 (!decide (x1=0)) (
 some (.cK [.agg [.list L],.i .i64 x1])) (
 bd (
 bG L fun len=>
 a8 (decide ((IntKind.wrap .i64 (x+1))<(len:Int))) (
 idx L (IntKind.wrap .i64 (x+1)) fun y=>
 gA y fun fU=>
 jX .i64 .i64 fU fun Path Value Version bI=>
 bd (rI (.s p1) (.s Path)) fun aY=>
 gB aY fun x2=>
 some [.b x2]) (
 some [.b false])) fun j8=>
 gC j8 fun m7 pQ=>
 gB m7 fun x3=>
 gN pQ<|
 a8 x3 (
 some (.cK [.agg [.list L],.i .i64 10])) (
 bd (fX 4 48 [.list L]) fun cX=>
 gF cX fun xs=>
 bd (oQ [.fresh xs,.i .i64 x,.i .i64 (IntKind.wrap .i64 (x+1))]) fun oo=>
 gF oo fun GZ=>
 some (.cK [.agg [.list GZ],.i .i64 0]))))
noncomputable def Bb:Nat→List MV→Option MV:=bm 174 (Fj qw) FP
theorem Ce:aq Tryz.prog cx Bb:=lY FQ [] 53 [(6,⟨[1,3,6,8],[],[],[(0,[(26,.sc (.k .b))])],[47,51]⟩)] [] [] Tryz.func174 (by kernel_rfl) (qq (fun _ _ _=>by kernel_rfl))
noncomputable def kA (w:List MV):Option MV:=
 aA .i64 .i64 .i64 .i64 .i64 .i64 .i64 .i64 .i64 .i64 .i64 w fun cB b9 dP cV gX cI mn fS en dx bY bL fK cC lF xE dC ca dD lA=>
 bd (qw (.agg [.list cB]) (.s en) (.i .i64 bY)) fun rA=>
 gT rA fun vs=>
 gC vs fun AR jf=>
 gA AR fun cs=>
 gC cs fun Ox rz=>
 gL Ox fun L=>
 gN rz<|
 gC jf fun RS pv=>
 gI .i64 RS fun x=>
 gN pv<|
 bd (eX (ar L b9 dP cV gX cI mn fS en dx bY bL fK cC lF x dC ca dD lA) (.i .i64 3)) fun aY=>
 gW aY fun x1 ls=>
 aA .i64 .i64 .i64 .i64 .i64 .i64 .i64 .i64 .i64 .i64 .i64 ls fun kX kb oT mr tA mu zp tB rG oU kc ke tC mw zq VK oV lG oW AY=>
 some (.ej (.cK []) (ar kX kb oT mr tA mu zp tB rG oU kc ke tC mw zq VK oV lG oW AY))
noncomputable def sX:Nat→List MV→Option MV:=bm 109 (RR kA) Bb
theorem wG:aq Tryz.prog cx sX:=M6 Ce 0 jr [] [(0,1000000)] 31 [] [] [] [(0,[0,1,2,3,4,5,6,7,8,9,10,11,12,13,14,15,16,17,18,19,20,21,22,23,24,25,26,27,28])] [] [] [] [] Tryz.func109 (by kernel_rfl) (by kernel_rfl) (rr fun _=>by kernel_rfl)
noncomputable def rJ (p:MV):Option MV:=
 gS p fun p1=>
 bd (jH (.s p1)) fun rA=>
 gT rA fun vs=>
 Vi vs fun x x1=>
 a8 (!x1) (
 some (.cK [.list ([]:List MV),.i .i64 13])) (
 some (.cK [.list x,.i .i64 0]))
noncomputable def FR:Nat→List MV→Option MV:=bm 224 (nv rJ) sX
theorem FU:aq Tryz.prog cx FR:=lY wG [] 14 [] [] [] Tryz.func224 (by kernel_rfl) (dw (fun _=>by kernel_rfl))
noncomputable def vw (a a1:MV):Option MV:=
 gA a fun cs=>
 gC cs fun m jm=>
 gL m fun L=>
 gN jm<|
 gS a1 fun uu=>
 bd (ic (.agg [.list L]) (.s uu)) fun rA=>
 gT rA fun vs=>
 L7 .i64 .i64 vs fun x x1=>
 a8 (!decide (x1=0)) (
 some (.cK [.list ([]:List MV),.i .i64 x1])) (
 bd (rJ (.s uu)) fun aY=>
 gT aY fun j8=>
 L8 .i64 j8 fun x2 x3=>
 cR (ta 4 L)<|
 bG L fun len=>
 cR (decide ((0:Int)≤(IntKind.wrap .i64 (x+1))∧(IntKind.wrap .i64 (x+1))≤(len:Int)∧(len:Int)≤(len:Int)))<|
 bG (List.drop (Int.toNat (IntKind.wrap .i64 (x+1))) (List.take (Int.toNat (len:Int)) L)) fun eW=>
 bd (Loop (fun nF=>
 L8 .i64 nF fun xs x4=>
 a8 (decide (x4<(eW:Int))) (
 idx (List.drop (Int.toNat (IntKind.wrap .i64 (x+1))) (List.take (Int.toNat (len:Int)) L)) x4 fun y=>
 gA y fun fU=>
 jX .i64 .i64 fU fun Path Value Version bI=>
 bd (rI (.s uu) (.s Path)) fun cX=>
 gB cX fun x5=>
 a8 (!x5) (
 some (.inr (2,[.list xs]))) (
 bd (rJ (.s Path)) fun oo=>
 gT oo fun ql=>
 L8 .i64 ql fun x6 x7=>
 bG x6 fun gY=>
 bG x2 fun ru=>
 bd (
 a8 (decide ((gY:Int)=(IntKind.wrap .i64 ((ru:Int)+1)))) (
 bG x2 fun zL=>
 idx x6 (zL:Int) fun y1=>
 gS y1 fun x8=>
 bG xs fun Ot=>
 bG ([.s x8]:List MV) fun Vy=>
 cR (decide ((Ot+Vy) *16≤2^46))<|
 some (0,[.list (xs++([.s x8]:List MV))])) (
 some (0,[.list xs]))) fun p1=>
 cR (Nat.beq p1.1 0)<|
 gC p1.2 fun Vk Mg=>
 gL Vk fun GZ=>
 gN Mg<|
 some (.inl [.list GZ,.i .i64 (IntKind.wrap .i64 (x4+1))]))) (
 some (.inr (2,[.list xs])))) [.list ([]:List MV),.i .i64 0]) fun p=>
 cR (Nat.beq p.1 2)<|
 gC p.2 fun m14 VE=>
 gL m14 fun VF=>
 gN VE<|
 some (.cK [.list VF,.i .i64 0]))
noncomputable def FV:Nat→List MV→Option MV:=bm 175 (fG vw) FR
theorem FW:aq Tryz.prog cx FV:=AQ FU [] [] 66 [62] [] [] [] [] [(12,⟨[1,8,13,33,34,35],[],[],[(0,[(10,.sc (.own 63 9 true))])],[62,63]⟩)] [(7,⟨[1,8,33,34],[],[(10,.sc (.own 63 9 true)),(35,.sc (.k (.i .i64)))],[(2,[(10,.sc (.own 63 9 true))])],[62,63]⟩)] [] Tryz.func175 (by kernel_rfl) (bD (fun _ _=>by kernel_rfl))
noncomputable def mF (w:List MV):Option MV:=
 aA .i64 .i64 .i64 .i64 .i64 .i64 .i64 .i64 .i64 .i64 .i64 w fun cB b9 dP cV gX cI mn fS en dx bY bL fK cC lF xE dC ca dD lA=>
 bd (vw (.agg [.list cB]) (.s en)) fun rA=>
 gT rA fun vs=>
 L8 .i64 vs fun x x1=>
 some (.ej (.cK []) (ar cB b9 dP cV gX cI mn fS en dx bY bL fK cC lF x1 dC ca x lA))
noncomputable def wc:Nat→List MV→Option MV:=bm 110 (RR mF) FV
theorem yS:aq Tryz.prog cx wc:=M6 FW 0 jr [] [(0,1000000)] 24 [] [] [] [(0,[0,1,2,3,4,5,6,7,8,9,10,11,12,13,14,15,16,17,18,19,20,21,22,23])] [] [] [] [] Tryz.func110 (by kernel_rfl) (by kernel_rfl) (rr fun _=>by kernel_rfl)
noncomputable def vz (b id span:MV):Option MV:=
 gA b fun cs=>
 M7 .i64 cs fun dE L=>
 gI .i64 id fun M9=>
 gI .i64 span fun IY=>
 bd (fQ (.agg [.i .i64 dE,.list L]) (.i .i64 M9)) fun rA=>
 gT rA fun vs=>
 Oq .i64 vs fun x x1=>
 bd (
 a8 (decide (M9<1)) (
 some [.b true]) (
 a8 (decide (IY<1)) (
 some [.b true]) (
 some [.b (decide ((1000:Int)<IY))]))) fun j8=>
 gC j8 fun m4 mP=>
 gB m4 fun x2=>
 gN mP<|
 a8 x2 (
 some (.cK [.agg [.i .i64 dE,.list L],.i .i64 1])) (
 a8 x1 (
 some (.cK [.agg [.i .i64 dE,.list L],.i .i64 7])) (
 bG L fun len=>
 a8 (decide ((50:Int)≤(len:Int))) (
 some (.cK [.agg [.i .i64 dE,.list L],.i .i64 9])) (
 both (
 bd (fX 3 24 [.list L]) fun aY=>
 gF aY fun xs=>
 bd (jA 24 [.fresh xs,.i .i64 x,.fresh ([.agg [.i .i64 M9,.i .i64 IY,.i .i64 (IntKind.wrap .i64 (dE+IY))]]:List MV)]) fun cX=>
 gF cX fun GZ=>
 some (.cK [.agg [.i .i64 dE,.list GZ],.i .i64 0])) (
 bd (fX 3 24 [.list L]) fun oo=>
 gF oo fun VF=>
 bd (jA 24 [.fresh VF,.i .i64 x,.fresh ([.agg [.i .i64 M9,.i .i64 IY,.i .i64 (IntKind.wrap .i64 (dE+IY))]]:List MV)]) fun AO=>
 gF AO fun xs3=>
 some (.cK [.agg [.i .i64 dE,.list xs3],.i .i64 0])))))
noncomputable def FX:Nat→List MV→Option MV:=bm 176 (Fj vz) wc
theorem FY:aq Tryz.prog cx FX:=AQ yS [] [] 52 [] [] [] [(8,[0,1,3,4,5,6,7,8,9,10,2,11,12,13,14,0,1,3,4,5,6,7,8,9,10,11,2,12,13,14,2,11])] [(2,⟨[1,2,3,6,8,9],[],[],[(0,[(16,.sc (.k .b))])],[39,48,49]⟩)] [] [] [] Tryz.func176 (by kernel_rfl) (qq (fun _ _ _=>by kernel_rfl))
noncomputable def mG (w:List MV):Option MV:=
 aA .i64 .i64 .i64 .i64 .i64 .i64 .i64 .i64 .i64 .i64 .i64 w fun cB b9 dP cV gX cI mn fS en dx bY bL fK cC lF xE dC ca dD lA=>
 bd (vz (.agg [.i .i64 b9,.list dP]) (.i .i64 bL) (.i .i64 fK)) fun rA=>
 gT rA fun vs=>
 gC vs fun AR jf=>
 gA AR fun cs=>
 M7 .i64 cs fun dE L=>
 gC jf fun RT rv=>
 gI .i64 RT fun x=>
 gN rv<|
 some (.ej (.cK []) (ar cB dE L cV gX cI mn fS en dx bY bL fK cC lF x dC ca dD lA))
noncomputable def we:Nat→List MV→Option MV:=bm 111 (RR mG) FX
theorem yT:aq Tryz.prog cx we:=M6 FY 0 jr [] [(0,1000000)] 29 [] [] [] [(0,[0,1,2,3,4,5,6,7,8,9,10,11,12,13,14,15,16,17,18,19,20,21,22,23,24,25,26,27,28])] [] [] [] [] Tryz.func111 (by kernel_rfl) (by kernel_rfl) (rr fun _=>by kernel_rfl)
noncomputable def sY (b id:MV):Option MV:=
 gA b fun cs=>
 M7 .i64 cs fun dE L=>
 gI .i64 id fun M9=>
 bd (fQ (.agg [.i .i64 dE,.list L]) (.i .i64 M9)) fun rA=>
 gT rA fun vs=>
 Oq .i64 vs fun x x1=>
 a8 (!x1) (
 some (.cK [.agg [.i .i64 dE,.list L],.i .i64 14])) (
 bd (fX 3 24 [.list L]) fun aY=>
 gF aY fun xs=>
 idx xs x fun y=>
 gA y fun fU=>
 B7 .i64 .i64 .i64 fU fun Id Span cY=>
 idx xs x fun y1=>
 gA y1 fun qE=>
 B7 .i64 .i64 .i64 qE fun Id1 AZ FD=>
 some (.cK [.agg [.i .i64 dE,.list (xs.set (Int.toNat x) (.agg [.i .i64 Id1,.i .i64 AZ,.i .i64 (IntKind.wrap .i64 (dE+Span))]))],.i .i64 0]))
noncomputable def C7:Nat→List MV→Option MV:=bm 177 (fG sY) we
theorem DB:aq Tryz.prog cx C7:=AQ yT [] [] 36 [] [] [] [(5,[0,1,2,3,4,5,6,7,8,9,10,11,12,13,14])] [] [] [] [] Tryz.func177 (by kernel_rfl) (bD (fun _ _=>by kernel_rfl))
noncomputable def lH (w:List MV):Option MV:=
 aA .i64 .i64 .i64 .i64 .i64 .i64 .i64 .i64 .i64 .i64 .i64 w fun cB b9 dP cV gX cI mn fS en dx bY bL fK cC lF xE dC ca dD lA=>
 bd (sY (.agg [.i .i64 b9,.list dP]) (.i .i64 bL)) fun rA=>
 gT rA fun vs=>
 gC vs fun AR jf=>
 gA AR fun cs=>
 M7 .i64 cs fun dE L=>
 gC jf fun RT rv=>
 gI .i64 RT fun x=>
 gN rv<|
 some (.ej (.cK []) (ar cB dE L cV gX cI mn fS en dx bY bL fK cC lF x dC ca dD lA))
noncomputable def uw:Nat→List MV→Option MV:=bm 112 (RR lH) C7
theorem xy:aq Tryz.prog cx uw:=M6 DB 0 jr [] [(0,1000000)] 24 [] [] [] [(0,[0,1,2,3,4,5,6,7,8,9,10,11,12,13,14,15,16,17,18,19,20,21,22,23])] [] [] [] [] Tryz.func112 (by kernel_rfl) (by kernel_rfl) (rr fun _=>by kernel_rfl)
noncomputable def sZ (b id:MV):Option MV:=
 gA b fun cs=>
 M7 .i64 cs fun dE L=>
 gI .i64 id fun M9=>
 bd (fQ (.agg [.i .i64 dE,.list L]) (.i .i64 M9)) fun rA=>
 gT rA fun vs=>
 Oq .i64 vs fun x x1=>
 a8 (!x1) (
 some (.cK [.agg [.i .i64 dE,.list L],.i .i64 14])) (
 bd (fX 3 24 [.list L]) fun aY=>
 gF aY fun xs=>
 bd (oQ [.fresh xs,.i .i64 x,.i .i64 (IntKind.wrap .i64 (x+1))]) fun cX=>
 gF cX fun GZ=>
 some (.cK [.agg [.i .i64 dE,.list GZ],.i .i64 0]))
noncomputable def C8:Nat→List MV→Option MV:=bm 178 (fG sZ) uw
theorem DC:aq Tryz.prog cx C8:=lY xy [] 26 [] [] [] Tryz.func178 (by kernel_rfl) (bD (fun _ _=>by kernel_rfl))
noncomputable def vA (sA owner:MV):Option MV:=
 gA sA fun cs=>
 gC cs fun m jm=>
 gL m fun L=>
 gN jm<|
 gI .i64 owner fun Cc=>
 bG L fun len=>
 bd (Loop (fun gw=>
 gC gw fun m1 kg=>
 gL m1 fun gone=>
 L8 .i64 kg fun t x=>
 a8 (decide (x<(len:Int))) (
 idx L x fun y=>
 gA y fun fU=>
 jX .i64 .i64 fU fun Path Value Version bI=>
 bd (
 a8 (decide ((0:Int)<Cc)) (
 some [.b (decide (bI=Cc))]) (
 some [.b false])) fun vs=>
 gC vs fun m8 FE=>
 gB m8 fun x1=>
 gN FE<|
 a8 x1 (
 bG gone fun eW=>
 bG ([.s Path]:List MV) fun gY=>
 cR (decide ((eW+gY) *16≤2^46))<|
 some (.inl [.list (gone++([.s Path]:List MV)),.list t,.i .i64 (IntKind.wrap .i64 (x+1))])) (
 bG t fun ru=>
 bG ([.agg (ml Path Value Version bI)]:List MV) fun zL=>
 cR (decide ((ru+zL) *48≤2^46))<|
 some (.inl [.list gone,.list (t++([.agg (ml Path Value Version bI)]:List MV)),.i .i64 (IntKind.wrap .i64 (x+1))]))) (
 some (.inr (2,[.list gone,.list t])))) [.list ([]:List MV),.list ([]:List MV),.i .i64 0]) fun p=>
 cR (Nat.beq p.1 2)<|
 gC p.2 fun m9 um=>
 gL m9 fun VL=>
 gC um fun RF ul=>
 gL RF fun t1=>
 gN ul<|
 some (.cK [.agg [.list t1],.list VL])
noncomputable def FZ:Nat→List MV→Option MV:=bm 228 (fG vA) C8
theorem F1:aq Tryz.prog cx FZ:=AQ DC [] [] 40 [29,34] [] [] [] [(6,⟨[1,4,6,7,9,12,13,14],[30,35],[],[(0,[(25,.sc (.k .b))])],[29,30,34,35]⟩)] [] [(4,⟨[1,4,12,13],[],[(6,.sc (.own 30 9 true)),(7,.box [.own 35 98 true]),(14,.sc (.k (.i .i64)))],[(2,[(6,.sc (.own 30 9 true)),(7,.box [.own 35 98 true])])],[29,30,34,35]⟩)] [] Tryz.func228 (by kernel_rfl) (bD (fun _ _=>by kernel_rfl))
noncomputable def j0 (w:List MV) (id:MV):Option MV:=
 gI .i64 id fun M9=>
 aA .i64 .i64 .i64 .i64 .i64 .i64 .i64 .i64 .i64 .i64 .i64 w fun cB b9 dP cV gX cI mn fS en dx bY bL fK cC lF xE dC ca dD lA=>
 bd (vA (.agg [.list cB]) (.i .i64 M9)) fun rA=>
 gT rA fun vs=>
 gC vs fun AR jf=>
 gA AR fun cs=>
 gC cs fun Ox rz=>
 gL Ox fun L=>
 gN rz<|
 gC jf fun RS pv=>
 gL RS fun x=>
 gN pv<|
 bG x fun len=>
 bd (Loop (fun rv=>
 gC rv fun RT Mj=>
 gI .i64 RT fun x1=>
 aA .i64 .i64 .i64 .i64 .i64 .i64 .i64 .i64 .i64 .i64 .i64 Mj fun x2 x3 x4 x5 x6 x7 x8 x9 zo BD C0 B8 Dw Dx Fq Fs Ft Fu M8 xs=>
 a8 (decide (x1<(len:Int))) (
 idx x x1 fun y=>
 gS y fun SV=>
 bG xs fun eW=>
 bG ([.agg [.i .i64 3,.s SV]]:List MV) fun gY=>
 cR (decide ((eW+gY) *24≤2^46))<|
 some (.inl [.i .i64 (IntKind.wrap .i64 (x1+1)),.list x2,.i .i64 x3,.list x4,.list x5,.list x6,.i .i64 x7,.i .i64 x8,.i .i64 x9,.s zo,.s BD,.i .i64 C0,.i .i64 B8,.i .i64 Dw,.i .i64 Dx,.i .i64 Fq,.i .i64 Fs,.s Ft,.i .i64 Fu,.list M8,.list (xs++([.agg [.i .i64 3,.s SV]]:List MV))])) (
 some (.inr (2,(ar x2 x3 x4 x5 x6 x7 x8 x9 zo BD C0 B8 Dw Dx Fq Fs Ft Fu M8 xs))))) [.i .i64 0,.list L,.i .i64 b9,.list dP,.list cV,.list gX,.i .i64 cI,.i .i64 mn,.i .i64 fS,.s en,.s dx,.i .i64 bY,.i .i64 bL,.i .i64 fK,.i .i64 cC,.i .i64 lF,.i .i64 xE,.s dC,.i .i64 ca,.list dD,.list lA]) fun p=>
 cR (Nat.beq p.1 2)<|
 aA .i64 .i64 .i64 .i64 .i64 .i64 .i64 .i64 .i64 .i64 .i64 p.2 fun x22 x23 x24 x25 x26 x27 x28 x29 x30 x31 x32 x33 x34 x35 x36 x37 x38 x39 x40 GZ=>
 some (.ej (.cK []) (ar x22 x23 x24 x25 x26 x27 x28 x29 x30 x31 x32 x33 x34 x35 x36 x37 x38 x39 x40 GZ))
noncomputable def wg:Nat→List MV→Option MV:=bm 179 (cl2 j0) FZ
theorem yU:aq Tryz.prog cx wg:=M6 F1 0 jr [] [(0,1000000)] 41 [36] [] [] [] [] [] [(3,⟨[0,23,24],[],[(25,.sc (.k (.i .i64))),(1000000,.box [.k .l,.k (.i .i64),.k .l,.k .l,.k .l,.k (.i .i64),.k (.i .i64),.k (.i .i64),.k .s,.k .s,.k (.i .i64),.k (.i .i64),.k (.i .i64),.k (.i .i64),.k (.i .i64),.k (.i .i64),.k .s,.k (.i .i64),.k .l,.own 2000019 77 false])],[(2,[(1000000,.box [.k .l,.k (.i .i64),.k .l,.k .l,.k .l,.k (.i .i64),.k (.i .i64),.k (.i .i64),.k .s,.k .s,.k (.i .i64),.k (.i .i64),.k (.i .i64),.k (.i .i64),.k (.i .i64),.k (.i .i64),.k .s,.k (.i .i64),.k .l,.own 2000019 77 false])])],[36]⟩)] [] Tryz.func179 (by kernel_rfl) (by kernel_rfl) (Vw fun _ _=>by kernel_rfl)
noncomputable def lI (w:List MV):Option MV:=
 aA .i64 .i64 .i64 .i64 .i64 .i64 .i64 .i64 .i64 .i64 .i64 w fun cB b9 dP cV gX cI mn fS en dx bY bL fK cC lF xE dC ca dD lA=>
 bd (sZ (.agg [.i .i64 b9,.list dP]) (.i .i64 bL)) fun rA=>
 gT rA fun vs=>
 gC vs fun AR jf=>
 gA AR fun cs=>
 M7 .i64 cs fun dE L=>
 gC jf fun RT rv=>
 gI .i64 RT fun x=>
 gN rv<|
 bd (
 a8 (decide (x=0)) (
 bd (j0 (ar cB dE L cV gX cI mn fS en dx bY bL fK cC lF x dC ca dD lA) (.i .i64 bL)) fun aY=>
 gW aY fun x1 ls=>
 aA .i64 .i64 .i64 .i64 .i64 .i64 .i64 .i64 .i64 .i64 .i64 ls fun kX kb oT mr tA mu zp tB rG oU kc ke tC mw zq VK oV lG oW AY=>
 some (0,(ar kX kb oT mr tA mu zp tB rG oU kc ke tC mw zq VK oV lG oW AY))) (
 some (0,(ar cB dE L cV gX cI mn fS en dx bY bL fK cC lF x dC ca dD lA)))) fun p=>
 cR (Nat.beq p.1 0)<|
 aA .i64 .i64 .i64 .i64 .i64 .i64 .i64 .i64 .i64 .i64 .i64 p.2 fun x2 x3 x4 x5 x6 x7 x8 x9 zo BD C0 B8 Dw Dx Fq Fs Ft Fu M8 xs=>
 some (.ej (.cK []) (ar x2 x3 x4 x5 x6 x7 x8 x9 zo BD C0 B8 Dw Dx Fq Fs Ft Fu M8 xs))
noncomputable def ux:Nat→List MV→Option MV:=bm 113 (RR lI) wg
theorem xz:aq Tryz.prog cx ux:=M6 yU 0 jr [] [(0,1000000)] 37 [] [] [] [(0,[0,1,2,3,4,5,6,7,8,9,10,11,12,13,14,15,16,17,18,19,20,21,22,23])] [] [(2,⟨[0],[],[],[(0,[(1000000,.box [.k .l,.k (.i .i64),.k .l,.k .l,.k .l,.k (.i .i64),.k (.i .i64),.k (.i .i64),.k .s,.k .s,.k (.i .i64),.k (.i .i64),.k (.i .i64),.k (.i .i64),.k (.i .i64),.k (.i .i64),.k .s,.k (.i .i64),.k .l,.own 2000019 77 false])])],[]⟩)] [] [] Tryz.func113 (by kernel_rfl) (by kernel_rfl) (rr fun _=>by kernel_rfl)
noncomputable def vB (b now:MV):Option MV:=
 gA b fun cs=>
 M7 .i64 cs fun dE L=>
 gI .i64 now fun YQ=>
 a8 (decide (YQ<dE)) (
 some (.cK [.agg [.i .i64 dE,.list L],.list ([]:List MV),.i .i64 15])) (
 a8 (decide ((1000000000:Int)<YQ)) (
 some (.cK [.agg [.i .i64 dE,.list L],.list ([]:List MV),.i .i64 5])) (
 bG L fun len=>
 bd (Loop (fun kg=>
 gC kg fun m2 pS=>
 gL m2 fun gone=>
 gC pS fun m3 mP=>
 gI .i64 m3 fun out=>
 L8 .i64 mP fun zM x=>
 a8 (decide (x<(len:Int))) (
 idx L x fun y=>
 gA y fun fU=>
 B7 .i64 .i64 .i64 fU fun Id Span cY=>
 a8 (decide (cY≤YQ)) (
 bG gone fun eW=>
 bG ([.i .i64 Id]:List MV) fun gY=>
 cR (decide ((eW+gY) *8≤2^46))<|
 some (.inl [.list (gone++([.i .i64 Id]:List MV)),.i .i64 out,.list zM,.i .i64 (IntKind.wrap .i64 (x+1))])) (
 bG zM fun ru=>
 bG ([.agg [.i .i64 Id,.i .i64 Span,.i .i64 cY]]:List MV) fun zL=>
 cR (decide ((ru+zL) *24≤2^46))<|
 some (.inl [.list gone,.i .i64 out,.list (zM++([.agg [.i .i64 Id,.i .i64 Span,.i .i64 cY]]:List MV)),.i .i64 (IntKind.wrap .i64 (x+1))]))) (
 some (.inr (3,[.list gone,.i .i64 out,.list zM])))) [.list ([]:List MV),.i .i64 YQ,.list ([]:List MV),.i .i64 0]) fun p=>
 cR (Nat.beq p.1 3)<|
 gC p.2 fun m9 um=>
 gL m9 fun VL=>
 M7 .i64 um fun YN akz=>
 some (.cK [.agg [.i .i64 YN,.list akz],.list VL,.i .i64 0])))
noncomputable def F3:Nat→List MV→Option MV:=bm 180 (fG vB) ux
theorem F4:aq Tryz.prog cx F3:=AQ xz [] [] 48 [37,42] [] [] [] [] [] [(8,⟨[1,4,24,25],[],[(7,.sc (.own 38 3 true)),(8,.box [.k (.i .i64),.own 43 126 true]),(26,.sc (.k (.i .i64)))],[(3,[(7,.sc (.own 38 3 true)),(8,.box [.k (.i .i64),.own 43 126 true])])],[37,38,42,43]⟩)] [] Tryz.func180 (by kernel_rfl) (bD (fun _ _=>by kernel_rfl))
noncomputable def mH (w:List MV):Option MV:=
 aA .i64 .i64 .i64 .i64 .i64 .i64 .i64 .i64 .i64 .i64 .i64 w fun cB b9 dP cV gX cI mn fS en dx bY bL fK cC lF xE dC ca dD lA=>
 bd (vB (.agg [.i .i64 b9,.list dP]) (.i .i64 fK)) fun rA=>
 gT rA fun vs=>
 gC vs fun AR jf=>
 gA AR fun cs=>
 M7 .i64 cs fun dE L=>
 L8 .i64 jf fun x x1=>
 a8 (!decide (x1=0)) (
 some (.ej (.cK []) (ar cB b9 dP cV gX cI mn fS en dx bY bL fK cC lF x1 dC ca dD lA))) (
 bG x fun len=>
 bd (Loop (fun A6=>
 gC A6 fun m25 VG=>
 gI .i64 m25 fun x2=>
 aA .i64 .i64 .i64 .i64 .i64 .i64 .i64 .i64 .i64 .i64 .i64 VG fun x3 x4 x5 x6 x7 x8 x9 zo BD C0 B8 Dw Dx Fq Fs Ft Fu M8 SV xs=>
 a8 (decide (x2<(len:Int))) (
 idx x x2 fun y=>
 gI .i64 y fun x22=>
 bd (j0 (ar x3 x4 x5 x6 x7 x8 x9 zo BD C0 B8 Dw Dx Fq Fs Ft Fu M8 SV xs) (.i .i64 x22)) fun aY=>
 gW aY fun x23 ls=>
 aA .i64 .i64 .i64 .i64 .i64 .i64 .i64 .i64 .i64 .i64 .i64 ls fun kX kb oT mr tA mu zp tB rG oU kc ke tC mw zq VK oV lG oW AY=>
 some (.inl [.i .i64 (IntKind.wrap .i64 (x2+1)),.list kX,.i .i64 kb,.list oT,.list mr,.list tA,.i .i64 mu,.i .i64 zp,.i .i64 tB,.s rG,.s oU,.i .i64 kc,.i .i64 ke,.i .i64 tC,.i .i64 mw,.i .i64 zq,.i .i64 VK,.s oV,.i .i64 lG,.list oW,.list AY])) (
 some (.inr (2,(ar x3 x4 x5 x6 x7 x8 x9 zo BD C0 B8 Dw Dx Fq Fs Ft Fu M8 SV xs))))) [.i .i64 0,.list cB,.i .i64 dE,.list L,.list cV,.list gX,.i .i64 cI,.i .i64 mn,.i .i64 fS,.s en,.s dx,.i .i64 bY,.i .i64 bL,.i .i64 fK,.i .i64 cC,.i .i64 lF,.i .i64 x1,.s dC,.i .i64 dE,.list dD,.list lA]) fun p=>
 cR (Nat.beq p.1 2)<|
 aA .i64 .i64 .i64 .i64 .i64 .i64 .i64 .i64 .i64 .i64 .i64 p.2 fun x24 x25 x26 x27 x28 x29 x30 x31 x32 x33 x34 x35 x36 x37 x38 x39 x40 x41 x42 GZ=>
 some (.ej (.cK []) (ar x24 x25 x26 x27 x28 x29 x30 x31 x32 x33 x34 x35 x36 x37 x38 x39 x40 x41 x42 GZ)))
noncomputable def wh:Nat→List MV→Option MV:=bm 114 (RR mH) F3
theorem yV:aq Tryz.prog cx wh:=M6 F4 0 jr [] [(0,1000000)] 50 [] [33] [(1,[2])] [(0,[0,1,2,3,4,5,6,7,8,9,10,11,12,13,14,15,16,17,18]),(3,[0,1,2,3,4,5,6,7,8,9,10,11,12])] [] [] [(5,⟨[0,40,41],[],[(42,.sc (.k (.i .i64))),(1000000,.box [.k .l,.k (.i .i64),.k .l,.k .l,.k .l,.k (.i .i64),.k (.i .i64),.k (.i .i64),.k .s,.k .s,.k (.i .i64),.k (.i .i64),.k (.i .i64),.k (.i .i64),.k (.i .i64),.k (.i .i64),.k .s,.k (.i .i64),.k .l,.own 2000019 77 false])],[(2,[(1000000,.box [.k .l,.k (.i .i64),.k .l,.k .l,.k .l,.k (.i .i64),.k (.i .i64),.k (.i .i64),.k .s,.k .s,.k (.i .i64),.k (.i .i64),.k (.i .i64),.k (.i .i64),.k (.i .i64),.k (.i .i64),.k .s,.k (.i .i64),.k .l,.own 2000019 77 false])])],[]⟩)] [] Tryz.func114 (by kernel_rfl) (by kernel_rfl) (rr fun _=>by kernel_rfl)
noncomputable def gd (sA v:MV):Option MV:=
 gL sA fun lZ=>
 gA v fun cs=>
 yM .i64 cs fun Path Client Kids=>
 bG lZ fun len=>
 bd (Loop (fun pS=>
 gC pS fun m3 mP=>
 gI .i64 m3 fun x=>
 gN mP<|
 a8 (decide (x<(len:Int))) (
 idx lZ x fun y=>
 gA y fun fU=>
 yM .i64 fU fun gV cG IM=>
 a8 ((decide (Path=gV))&&((decide (Client=cG))&&(decide (Kids=IM)))) (
 some (.inr (1,[.i .i64 x]))) (
 some (.inl [.i .i64 (IntKind.wrap .i64 (x+1))]))) (
 some (.inr (2,[])))) [.i .i64 0]) fun p=>
 a8 (Nat.beq p.1 2) (
 gN p.2<|
 some (.i .i64 (-1))) (
 cR (Nat.beq p.1 1)<|
 gC p.2 fun m7 ox=>
 gI .i64 m7 fun x1=>
 gN ox<|
 some (.i .i64 x1))
noncomputable def nN:Nat→List MV→Option MV:=bm 250 (fG gd) wh
theorem rK:aq Tryz.prog cx nN:=AQ yV [] [] 19 [] [] [] [(4,[0,1,2,3,4,5])] [] [] [(2,⟨[0,3,7],[],[(8,.sc (.k (.i .i64)))],[(1,[(4,.sc (.k (.i .i64)))]),(2,[])],[]⟩)] [] Tryz.func250 (by kernel_rfl) (bD (fun _ _=>by kernel_rfl))
noncomputable def eK (sA v:MV):Option MV:=
 gL sA fun lZ=>
 gA v fun cs=>
 yM .i64 cs fun Path Client Kids=>
 bd (gd (.list lZ) (.agg [.s Path,.i .i64 Client,.b Kids])) fun rA=>
 gI .i64 rA fun x=>
 some (.b (decide ((0:Int)≤x)))
noncomputable def lN:Nat→List MV→Option MV:=bm 229 (fG eK) nN
theorem pD:aq Tryz.prog cx lN:=lY rK [] 9 [] [] [] Tryz.func229 (by kernel_rfl) (bD (fun _ _=>by kernel_rfl))
noncomputable def yw (t w:MV):Option MV:=
 gA t fun cs=>
 gC cs fun m jm=>
 gL m fun L=>
 gN jm<|
 gA w fun fU=>
 yM .i64 fU fun Path Client Kids=>
 bd (kW (.s Path)) fun rA=>
 gB rA fun x=>
 a8 (!x) (
 some (.cK [.agg [.list L],.i .i64 13])) (
 a8 (decide (Client<0)) (
 some (.cK [.agg [.list L],.i .i64 1])) (
 bd (eK (.list L) (.agg [.s Path,.i .i64 Client,.b Kids])) fun aY=>
 gB aY fun x1=>
 a8 x1 (
 some (.cK [.agg [.list L],.i .i64 0])) (
 bG L fun len=>
 a8 (decide ((200:Int)≤(len:Int))) (
 some (.cK [.agg [.list L],.i .i64 9])) (
 both (
 bd (fX 3 32 [.list L]) fun cX=>
 gF cX fun xs=>
 bG xs fun eW=>
 bG ([.agg [.s Path,.i .i64 Client,.b Kids]]:List MV) fun gY=>
 cR (decide ((eW+gY) *32≤2^46))<|
 some (.cK [.agg [.list (xs++([.agg [.s Path,.i .i64 Client,.b Kids]]:List MV))],.i .i64 0])) (
 bd (fX 3 32 [.list L]) fun oo=>
 gF oo fun GZ=>
 bG GZ fun ru=>
 bG ([.agg [.s Path,.i .i64 Client,.b Kids]]:List MV) fun zL=>
 cR (decide ((ru+zL) *32≤2^46))<|
 some (.cK [.agg [.list (GZ++([.agg [.s Path,.i .i64 Client,.b Kids]]:List MV))],.i .i64 0]))))))
noncomputable def IZ:Nat→List MV→Option MV:=bm 181 (fG yw) lN
theorem HB:aq Tryz.prog cx IZ:=AQ pD [] [] 36 [33] [] [] [(9,[0,1,3,2,4,5,6,7,8,0,1,3,4,2,5,6,7,8,2,4])] [] [] [] [] Tryz.func181 (by kernel_rfl) (bD (fun _ _=>by kernel_rfl))
noncomputable def lJ (w:List MV):Option MV:=
 aA .i64 .i64 .i64 .i64 .i64 .i64 .i64 .i64 .i64 .i64 .i64 w fun cB b9 dP cV gX cI mn fS en dx bY bL fK cC lF xE dC ca dD lA=>
 bd (yw (.agg [.list cV]) (.agg [.s en,.i .i64 cI,.b (decide (fS=11))])) fun rA=>
 gT rA fun vs=>
 gC vs fun AR jf=>
 gA AR fun cs=>
 gC cs fun Ox rz=>
 gL Ox fun L=>
 gN rz<|
 gC jf fun RS pv=>
 gI .i64 RS fun x=>
 gN pv<|
 some (.ej (.cK []) (ar cB b9 dP L gX cI mn fS en dx bY bL fK cC lF x dC ca dD lA))
noncomputable def uy:Nat→List MV→Option MV:=bm 115 (RR lJ) IZ
theorem xA:aq Tryz.prog cx uy:=M6 HB 0 jr [] [(0,1000000)] 38 [] [] [] [(0,[0,1,2,3,4,5,6,7,8,9,10,11,12,13,14,15,16,17,18]),(1,[0,1,2,3,4,5,6,7,8,9,10,11,12,13,14,15,16,17,18,19])] [] [] [] [] Tryz.func115 (by kernel_rfl) (by kernel_rfl) (rr fun _=>by kernel_rfl)
noncomputable def vC:Option MV:=
 some (.list ([.func 105 [],.func 106 [],.func 107 [],.func 108 [],.func 109 [],.func 110 [],.func 111 [],.func 112 [],.func 113 [],.func 114 [],.func 115 [],.func 115 []]:List MV))
noncomputable def F5:Nat→List MV→Option MV:=bm 59 (Oh vC) uy
theorem F6:aq Tryz.prog cx F5:=lY xA [] 2 [] [] [] Tryz.func59 (by kernel_rfl) (AK (by kernel_rfl))
noncomputable def oX (c w:MV):Option MV:=
 gA c fun cs=>
 gC cs fun m jm=>
 gI .i64 m fun Kind=>
 gC jm fun m1 gw=>
 gS m1 fun Path=>
 gN gw<|
 gA w fun fU=>
 yM .i64 fU fun gV Client Kids=>
 bd (
 a8 (decide (Kind<1)) (
 some [.b true]) (
 a8 (decide ((3:Int)<Kind)) (
 some [.b true]) (
 bd (kW (.s Path)) fun rA=>
 gB rA fun x=>
 some [.b (!x)]))) fun vs=>
 gC vs fun m5 nF=>
 gB m5 fun x1=>
 gN nF<|
 a8 x1 (
 some (.b false)) (
 a8 (!Kids) (
 some (.b (decide (Path=gV)))) (
 bd (pB (.s Path)) fun aY=>
 gT aY fun j8=>
 gC j8 fun m6 tu=>
 gS m6 fun x2=>
 gC tu fun m7 pQ=>
 gI .i64 m7 fun x3=>
 gN pQ<|
 bd (
 a8 (decide (x3=0)) (
 a8 (!decide (Kind=2)) (
 some [.b (decide (x2=gV))]) (
 some [.b false])) (
 some [.b false])) fun ql=>
 gC ql fun m8 ox=>
 gB m8 fun x4=>
 gN ox<|
 some (.b x4)))
noncomputable def oY:Nat→List MV→Option MV:=bm 27 (fG oX) F5
theorem Bc:aq Tryz.prog cx oY:=lY F6 [] 48 [(6,⟨[2,3,5,6],[],[],[(0,[(4,.sc (.k .b))])],[]⟩),(1,⟨[2,3],[],[],[(0,[(20,.sc (.k .b))])],[]⟩)] [] [] Tryz.func27 (by kernel_rfl) (bD (fun _ _=>by kernel_rfl))
noncomputable def zr:Ctx:=Yv oY [(2,1000002)] 17 [14] [] [] [] [] [(3,⟨[1,2,3,5],[],[],[(0,[(1000002,.box [.own 2000000 79 false])])],[14]⟩)] [] []
noncomputable def nO (w:MV) (c:MV) (c1:List MV):Option MV:=
 gA w fun cs=>
 yM .i64 cs fun Path Client Kids=>
 gP c fun fU=>
 gC fU fun m3 pS=>
 gI .i64 m3 fun Kind=>
 gC pS fun m4 mP=>
 gS m4 fun gV=>
 gN mP<|
 gC c1 fun m5 nF=>
 gL m5 fun x=>
 gN nF<|
 bd (oX (.agg [.i .i64 Kind,.s gV]) (.agg [.s Path,.i .i64 Client,.b Kids])) fun rA=>
 gB rA fun x1=>
 bd (
 a8 x1 (
 bG x fun len=>
 bG ([.agg [.s Path,.i .i64 Client,.b Kids,.i .i64 Kind,.s gV]]:List MV) fun eW=>
 cR (decide ((len+eW) *56≤2^46))<|
 some (0,[.list (x++([.agg [.s Path,.i .i64 Client,.b Kids,.i .i64 Kind,.s gV]]:List MV))])) (
 some (0,[.list x]))) fun p=>
 cR (Nat.beq p.1 0)<|
 gC p.2 fun m6 tu=>
 gL m6 fun xs=>
 gN tu<|
 some (.ej (.b x1) [.list xs])
theorem DD (w:MV) (c:MV) (c1:List MV):HS zr [[.i .i64,.s],[]] 2 Qc Tryz.f118 [w,c,.cell (.func 0 c1)]=nO w c c1:=by kernel_rfl
noncomputable abbrev vD:List MV→Option MV:=fun ms=>match ms with|[a0,a1,.cell (.func off a2)]=>(match Nat.beq off 0 with|true=>nO a0 a1 a2|false=>none)|_=>none
theorem DE {ms:List MV} {r:MV} (h:vD ms=some r): ∃c':Ctx,AE cx c'∧c'.g=oY∧PX c' 118 Tryz.f118 [[.i .i64,.s],[]]=true∧HS c' [[.i .i64,.s],[]] 2 Qc Tryz.f118 ms=some r:=by
 unfold vD at h
 split at h
 ·rename_i a0 a1 off a2
  cases ho0:Nat.beq off 0 with
  |true=>
   have:=Nat.eq_of_beq_eq_true ho0
   subst this
   exact ⟨zr,⟨rfl,rfl,rfl,rfl,rfl,rfl,rfl,rfl,rfl⟩,rfl,by kernel_rfl,(DD _ _ _).trans h⟩
  |false=>
  rw [ho0] at h
  simp only at h
  cases h
 ·cases h
noncomputable def vE:Nat→List MV→Option MV:=bm 118 vD oY
theorem Cf:aq Tryz.prog cx vE:=
 Bc.M6 (pos:=2) (ks:=Qc) (b6:=[[.i .i64,.s],[]]) ov Vh Vo Vs xn Kk Tryz.func118 (by kernel_rfl) (fun _=>rfl) DE
noncomputable def Bd:Nat→List MV→Option MV:=vE
theorem vF (x0:MV) (x1:MV) (x2:List MV):Bd 118 [x0,x1,.cell (.func 0 x2)]=nO x0 x1 x2:=by kernel_rfl
noncomputable def vG (t lA:MV):Option MV:=
 gA t fun cs=>
 gC cs fun m jm=>
 gL m fun L=>
 gN jm<|
 gL lA fun AY=>
 bd (fX 3 32 [.list L]) fun rA=>
 gF rA fun xs=>
 bG AY fun len=>
 bd (Loop (fun gw=>
 gC gw fun m1 kg=>
 gL m1 fun left=>
 L8 .i64 kg fun out x=>
 a8 (decide (x<(len:Int))) (
 idx AY x fun y=>
 gA y fun fU=>
 gC fU fun m4 nF=>
 gI .i64 m4 fun Kind=>
 gC nF fun m5 tu=>
 gS m5 fun Path=>
 gN tu<|
 cR (left.all Nj)<|
 bd (ma (HR Bd 118 [.rp [.i .i64 Kind,.s Path]]) [.list out] left) fun aY=>
 gC aY.2 fun m6 pQ=>
 gL m6 fun x1=>
 gN pQ<|
 some (.inl [.list aY.1,.list x1,.i .i64 (IntKind.wrap .i64 (x+1))])) (
 some (.inr (2,[.list left,.list out])))) [.list xs,.list ([]:List MV),.i .i64 0]) fun p=>
 cR (Nat.beq p.1 2)<|
 gC p.2 fun m7 ox=>
 gL m7 fun agx=>
 gC ox fun m8 FE=>
 gL m8 fun zM=>
 gN FE<|
 some (.cK [.agg [.list agx],.list zM])
noncomputable def zR:Nat→List MV→Option MV:=bm 60 (fG vG) vE
theorem F7:aq Tryz.prog cx zR:=AQ Cf [] [] 26 [] [25] [(8,[7])] [(8,[0,1,2,3,4])] [] [] [(4,⟨[4,13,14],[],[(6,.sc (.own 12 75 false)),(7,.box [.own 2000000 79 false]),(15,.sc (.k (.i .i64)))],[(2,[(6,.sc (.own 12 75 false)),(7,.box [.own 2000000 79 false])])],[]⟩)] [] Tryz.func60 (by kernel_rfl) (bD (fun _ _=>by kernel_rfl))
noncomputable def c9:Nat→List MV→Option MV:=zR
theorem pE (x0:List MV):c9 105 [.cell (.func 0 x0)]=jF x0:=by kernel_rfl
theorem pV (x0:List MV):c9 106 [.cell (.func 0 x0)]=kz x0:=by kernel_rfl
theorem r8 (x0:List MV):c9 107 [.cell (.func 0 x0)]=nL x0:=by kernel_rfl
theorem r9 (x0:List MV):c9 108 [.cell (.func 0 x0)]=nM x0:=by kernel_rfl
theorem pW (x0:List MV):c9 109 [.cell (.func 0 x0)]=kA x0:=by kernel_rfl
theorem rL (x0:List MV):c9 110 [.cell (.func 0 x0)]=mF x0:=by kernel_rfl
theorem rM (x0:List MV):c9 111 [.cell (.func 0 x0)]=mG x0:=by kernel_rfl
theorem qx (x0:List MV):c9 112 [.cell (.func 0 x0)]=lH x0:=by kernel_rfl
theorem qy (x0:List MV):c9 113 [.cell (.func 0 x0)]=lI x0:=by kernel_rfl
theorem rN (x0:List MV):c9 114 [.cell (.func 0 x0)]=mH x0:=by kernel_rfl
theorem qz (x0:List MV):c9 115 [.cell (.func 0 x0)]=lJ x0:=by kernel_rfl
noncomputable def ng (a a1:MV):Option MV:=
 gA a fun cs=>
 iK .i64 cs fun ei dR jt eG Seen=>
 gA a1 fun fU=>
 ka .i64 .i64 .i64 .i64 .i64 .i64 fU fun Client Seq Kind Path Value Version Session Span=>
 bd (lE (.agg (eF ei dR jt eG Seen)) (.agg (c8 Client Seq Kind Path Value Version Session Span))) fun rA=>
 gT rA fun vs=>
 gC vs fun Vk FC=>
 gA Vk fun qE=>
 bK .i64 .i64 .i64 .i64 qE fun cG pR E dS b8 Names=>
 gC FC fun AR jf=>
 gB AR fun x=>
 gN jf<|
 a8 x (
 some (.cK [.agg (eF ei dR jt eG Seen),.agg (eI cG pR E dS b8 Names),.list ([]:List MV)])) (
 bd (vC) fun aY=>
 gL aY fun x1=>
 idx x1 Kind fun y=>
 gR y fun x2=>
 Na x2 fun fn cap=>
 gN cap<|
 bd (G0 [105,106,107,108,109,110,111,112,113,114,115] fn fun k=>c9 k [.cell (.func 0 (ar ei dR jt eG Seen Client Seq Kind Path Value Version Session Span cG pR E dS b8 Names ([]:List MV)))]) fun cX=>
 gW cX fun x3 ls=>
 aA .i64 .i64 .i64 .i64 .i64 .i64 .i64 .i64 .i64 .i64 .i64 ls fun cB b9 dP cV gX cI mn fS en dx bY bL fK cC lF xE dC ca dD lA=>
 bd (vG (.agg [.list cV]) (.list lA)) fun oo=>
 gT oo fun j8=>
 gC j8 fun m41 Mn=>
 gA m41 fun od=>
 gC od fun m42 VM=>
 gL m42 fun L=>
 gN VM<|
 gC Mn fun m43 Mm=>
 gL m43 fun x4=>
 gN Mm<|
 bd (fX 6 72 [.list Seen]) fun AO=>
 gF AO fun xs=>
 bd (jg (.agg (eF ei dR jt eG Seen)) (.i .i64 Client)) fun tt=>
 gT tt fun ql=>
 Oq .i64 ql fun x5 x6=>
 bd (
 a8 x6 (
 idx xs x5 fun y1=>
 gA y1 fun Vz=>
 bK .i64 .i64 .i64 .i64 Vz fun AU YL E1 B9 uk nG=>
 some (0,(ar cB b9 dP L (xs.set (Int.toNat x5) (.agg (eI cC lF xE dC ca dD))) cI mn fS en dx bY bL fK cC lF xE dC ca dD lA))) (
 bd (jA 72 [.fresh xs,.i .i64 x5,.fresh ([.agg (eI cC lF xE dC ca dD)]:List MV)]) fun Dv=>
 gF Dv fun GZ=>
 some (0,(ar cB b9 dP L GZ cI mn fS en dx bY bL fK cC lF xE dC ca dD lA)))) fun p=>
 cR (Nat.beq p.1 0)<|
 aA .i64 .i64 .i64 .i64 .i64 .i64 .i64 .i64 .i64 .i64 .i64 p.2 fun x7 x8 x9 zo VF BD C0 B8 Dw Dx Fq Fs Ft Fu M8 SV x22 x23 x24 xs3=>
 both (
 some (.cK [.agg (eF x7 x8 x9 zo VF),.agg (eI Fu M8 SV x22 x23 x24),.list x4])) (
 some (.cK [.agg (eF x7 x8 x9 zo VF),.agg (eI Fu M8 SV x22 x23 x24),.list x4])))
noncomputable def C9:Nat→List MV→Option MV:=bm 18 (fG ng) zR
theorem DF:aq Tryz.prog cx C9:=AQ F7 [] [] 103 [] [21] [(2,[7])] [(3,[0,1,2,3,4]),(5,[1,2,5,0,3,4,6]),(6,[0,1,2,3,4,5,6,7,8,9,10,11,12,13,14,15]),(7,[0,1,2,3,4,5,6,7,8,9,10,11,12,13]),(10,[0,1,2,3,4,5,6,7,8,9,10,11]),(11,[0,1,2,3,4,5,6,7,8,9,10,11,12,13,14,15,16]),(12,[0,1,2,3,4,5,6,8,9,7,10,11,0,1,2,3,4,5,6,7,8,9,10,11,9,7])] [] [(10,⟨[4,5,11,12],[],[],[(0,[(26,.box [.k .l,.k (.i .i64),.k .l,.k .l,.own 52 57 false,.k (.i .i64),.k (.i .i64),.k (.i .i64),.k .s,.k .s,.k (.i .i64),.k (.i .i64),.k (.i .i64),.k (.i .i64),.k (.i .i64),.k (.i .i64),.k .s,.k (.i .i64),.k .l,.own 2000019 77 true]),(9,.pt 26 0)])],[89,90,2000019]⟩)] [] [105,106,107,108,109,110,111,112,113,114,115] Tryz.func18 (by kernel_rfl) (bD (fun _ _=>by kernel_rfl))
noncomputable def yx:Option MV:=
 some (.agg [.list ([.agg (ml ([47]:List UInt8) ([]:List UInt8) 0 0)]:List MV)])
noncomputable def I3:Nat→List MV→Option MV:=bm 71 (Oh yx) C9
theorem HC:aq Tryz.prog cx I3:=lY DF [] 4 [] [] [] Tryz.func71 (by kernel_rfl) (AK (by kernel_rfl))
noncomputable def yy:Option MV:=
 some (.agg [.i .i64 0,.list ([]:List MV)])
noncomputable def I4:Nat→List MV→Option MV:=bm 72 (Oh yy) I3
theorem HD:aq Tryz.prog cx I4:=lY HC [] 2 [] [] [] Tryz.func72 (by kernel_rfl) (AK (by kernel_rfl))
noncomputable def yz:Option MV:=
 bd (yx) fun rA=>
 gA rA fun cs=>
 gC cs fun m jm=>
 gL m fun L=>
 gN jm<|
 bd (yy) fun aY=>
 gA aY fun fU=>
 M7 .i64 fU fun dE L1=>
 some (.agg (eF L dE L1 ([]:List MV) ([]:List MV)))
noncomputable def I5:Nat→List MV→Option MV:=bm 26 (Oh yz) I4
theorem HE:aq Tryz.prog cx I5:=lY HD [] 4 [] [] [] Tryz.func26 (by kernel_rfl) (AK (by kernel_rfl))
noncomputable def gM (s1 s2:MV):Option MV:=
 gL s1 fun rE=>
 gL s2 fun wD=>
 bG rE fun len=>
 bG wD fun eW=>
 a8 (!decide ((len:Int)=(eW:Int))) (
 some (.b false)) (
 bG rE fun gY=>
 bd (Loop (fun jm=>
 gC jm fun m gw=>
 gI .i64 m fun x=>
 gN gw<|
 a8 (decide (x<(gY:Int))) (
 idx rE x fun y=>
 gA y fun cs=>
 jX .i64 .i64 cs fun Path Value Version bI=>
 idx wD x fun y1=>
 gA y1 fun fU=>
 jX .i64 .i64 fU fun gV dS b8 vl=>
 a8 (!((decide (Path=gV))&&((decide (Value=dS))&&((decide (Version=b8))&&(decide (bI=vl)))))) (
 some (.inr (1,[.b false]))) (
 some (.inl [.i .i64 (IntKind.wrap .i64 (x+1))]))) (
 some (.inr (2,[])))) [.i .i64 0]) fun p=>
 a8 (Nat.beq p.1 2) (
 gN p.2<|
 some (.b true)) (
 cR (Nat.beq p.1 1)<|
 gC p.2 fun m9 um=>
 gB m9 fun x1=>
 gN um<|
 some (.b x1)))
noncomputable def n0:Nat→List MV→Option MV:=bm 139 (fG gM) I5
theorem sa:aq Tryz.prog cx n0:=AQ HE [] [] 26 [] [] [] [(6,[0,1,2,3,4,5,6,7,8])] [] [] [(4,⟨[0,1,12],[],[(13,.sc (.k (.i .i64)))],[(1,[(4,.sc (.k .b))]),(2,[])],[]⟩)] [] Tryz.func139 (by kernel_rfl) (bD (fun _ _=>by kernel_rfl))
noncomputable def vH (a b:MV):Option MV:=
 gA a fun cs=>
 gC cs fun m jm=>
 gL m fun L=>
 gN jm<|
 gA b fun fU=>
 gC fU fun m1 gw=>
 gL m1 fun L1=>
 gN gw<|
 bd (gM (.list L) (.list L1)) fun rA=>
 gB rA fun x=>
 some (.b x)
noncomputable def F8:Nat→List MV→Option MV:=bm 76 (fG vH) n0
theorem F9:aq Tryz.prog cx F8:=lY sa [] 10 [] [] [] Tryz.func76 (by kernel_rfl) (bD (fun _ _=>by kernel_rfl))
noncomputable def e9 (s1 s2:MV):Option MV:=
 gL s1 fun rE=>
 gL s2 fun wD=>
 bG rE fun len=>
 bG wD fun eW=>
 a8 (!decide ((len:Int)=(eW:Int))) (
 some (.b false)) (
 bG rE fun gY=>
 bd (Loop (fun jm=>
 gC jm fun m gw=>
 gI .i64 m fun x=>
 gN gw<|
 a8 (decide (x<(gY:Int))) (
 idx rE x fun y=>
 gA y fun cs=>
 B7 .i64 .i64 .i64 cs fun Id Span cY=>
 idx wD x fun y1=>
 gA y1 fun fU=>
 B7 .i64 .i64 .i64 fU fun Id1 AZ FD=>
 a8 (!((decide (Id=Id1))&&((decide (Span=AZ))&&(decide (cY=FD))))) (
 some (.inr (1,[.b false]))) (
 some (.inl [.i .i64 (IntKind.wrap .i64 (x+1))]))) (
 some (.inr (2,[])))) [.i .i64 0]) fun p=>
 a8 (Nat.beq p.1 2) (
 gN p.2<|
 some (.b true)) (
 cR (Nat.beq p.1 1)<|
 gC p.2 fun m7 ox=>
 gB m7 fun x1=>
 gN ox<|
 some (.b x1)))
noncomputable def my:Nat→List MV→Option MV:=bm 140 (fG e9) F8
theorem pX:aq Tryz.prog cx my:=AQ F9 [] [] 26 [] [] [] [(6,[0,1,2,3,4,5,6,7,8])] [] [] [(4,⟨[0,1,12],[],[(13,.sc (.k (.i .i64)))],[(1,[(4,.sc (.k .b))]),(2,[])],[]⟩)] [] Tryz.func140 (by kernel_rfl) (bD (fun _ _=>by kernel_rfl))
noncomputable def vI (a b:MV):Option MV:=
 gA a fun cs=>
 M7 .i64 cs fun dE L=>
 gA b fun fU=>
 M7 .i64 fU fun akA L1=>
 bd (
 a8 (decide (dE=akA)) (
 bd (e9 (.list L) (.list L1)) fun rA=>
 gB rA fun x=>
 some [.b x]) (
 some [.b false])) fun vs=>
 gC vs fun m4 mP=>
 gB m4 fun x1=>
 gN mP<|
 some (.b x1)
noncomputable def Ga:Nat→List MV→Option MV:=bm 77 (fG vI) my
theorem Gb:aq Tryz.prog cx Ga:=lY pX [] 17 [(1,⟨[2,3],[],[],[(0,[(4,.sc (.k .b))])],[]⟩)] [] [] Tryz.func77 (by kernel_rfl) (bD (fun _ _=>by kernel_rfl))
noncomputable def gf (s1 s2:MV):Option MV:=
 gL s1 fun rE=>
 gL s2 fun wD=>
 bG rE fun len=>
 bG wD fun eW=>
 a8 (!decide ((len:Int)=(eW:Int))) (
 some (.b false)) (
 bG rE fun gY=>
 bd (Loop (fun jm=>
 gC jm fun m gw=>
 gI .i64 m fun x=>
 gN gw<|
 a8 (decide (x<(gY:Int))) (
 idx rE x fun y=>
 gA y fun cs=>
 yM .i64 cs fun Path Client Kids=>
 idx wD x fun y1=>
 gA y1 fun fU=>
 yM .i64 fU fun gV cG IM=>
 a8 (!((decide (Path=gV))&&((decide (Client=cG))&&(decide (Kids=IM))))) (
 some (.inr (1,[.b false]))) (
 some (.inl [.i .i64 (IntKind.wrap .i64 (x+1))]))) (
 some (.inr (2,[])))) [.i .i64 0]) fun p=>
 a8 (Nat.beq p.1 2) (
 gN p.2<|
 some (.b true)) (
 cR (Nat.beq p.1 1)<|
 gC p.2 fun m7 ox=>
 gB m7 fun x1=>
 gN ox<|
 some (.b x1)))
noncomputable def nP:Nat→List MV→Option MV:=bm 141 (fG gf) Ga
theorem rO:aq Tryz.prog cx nP:=AQ Gb [] [] 26 [] [] [] [(6,[0,1,2,3,4,5,6,7,8])] [] [] [(4,⟨[0,1,12],[],[(13,.sc (.k (.i .i64)))],[(1,[(4,.sc (.k .b))]),(2,[])],[]⟩)] [] Tryz.func141 (by kernel_rfl) (bD (fun _ _=>by kernel_rfl))
noncomputable def vJ (a b:MV):Option MV:=
 gA a fun cs=>
 gC cs fun m jm=>
 gL m fun L=>
 gN jm<|
 gA b fun fU=>
 gC fU fun m1 gw=>
 gL m1 fun L1=>
 gN gw<|
 bd (gf (.list L) (.list L1)) fun rA=>
 gB rA fun x=>
 some (.b x)
noncomputable def Gc:Nat→List MV→Option MV:=bm 78 (fG vJ) nP
theorem Gd:aq Tryz.prog cx Gc:=lY rO [] 10 [] [] [] Tryz.func78 (by kernel_rfl) (bD (fun _ _=>by kernel_rfl))
noncomputable def vK (a b:MV):Option MV:=
 gA a fun cs=>
 bK .i64 .i64 .i64 .i64 cs fun Client Seq E Value Version Names=>
 gA b fun fU=>
 bK .i64 .i64 .i64 .i64 fU fun cG pR E1 dS b8 nG=>
 bd (
 a8 (decide (Client=cG)) (
 a8 (decide (Seq=pR)) (
 a8 (decide (E=E1)) (
 a8 (decide (Value=dS)) (
 a8 (decide (Version=b8)) (
 bd (gx (.list Names) (.list nG)) fun rA=>
 gB rA fun x=>
 some [.b x]) (
 some [.b false])) (
 some [.b false])) (
 some [.b false])) (
 some [.b false])) (
 some [.b false])) fun vs=>
 gC vs fun Yt A4=>
 gB Yt fun x1=>
 gN A4<|
 some (.b x1)
noncomputable def zS:Nat→List MV→Option MV:=bm 80 (fG vK) Gc
theorem Ge:aq Tryz.prog cx zS:=lY Gd [] 45 [(1,⟨[2,3],[],[],[(0,[(4,.sc (.k .b))])],[]⟩)] [] [] Tryz.func80 (by kernel_rfl) (bD (fun _ _=>by kernel_rfl))
noncomputable def ck:Nat→List MV→Option MV:=zS
theorem fa (x0 x1:MV):ck 80 [x0,x1]=vK x0 x1:=by kernel_rfl
noncomputable def bR (s1 s2 eq:MV):Option MV:=
 gL s1 fun rE=>
 gL s2 fun wD=>
 gR eq fun eq1=>
 bG rE fun len=>
 bG wD fun eW=>
 a8 (!decide ((len:Int)=(eW:Int))) (
 some (.b false)) (
 bG rE fun gY=>
 bd (Loop (fun jm=>
 gC jm fun m gw=>
 gI .i64 m fun x=>
 gN gw<|
 a8 (decide (x<(gY:Int))) (
 idx rE x fun y=>
 gA y fun cs=>
 bK .i64 .i64 .i64 .i64 cs fun Client Seq E Value Version Names=>
 idx wD x fun y1=>
 gA y1 fun fU=>
 bK .i64 .i64 .i64 .i64 fU fun cG pR E1 dS b8 nG=>
 Na eq1 fun fn cap=>
 cR (!gv fn)<|
 bd (ck fn ([.agg (eI Client Seq E Value Version Names),.agg (eI cG pR E1 dS b8 nG)]++cap)) fun rA=>
 gB rA fun x1=>
 a8 (!x1) (
 some (.inr (1,[.b false]))) (
 some (.inl [.i .i64 (IntKind.wrap .i64 (x+1))]))) (
 some (.inr (2,[])))) [.i .i64 0]) fun p=>
 a8 (Nat.beq p.1 2) (
 gN p.2<|
 some (.b true)) (
 cR (Nat.beq p.1 1)<|
 gC p.2 fun Vk Mg=>
 gB Vk fun x2=>
 gN Mg<|
 some (.b x2)))
noncomputable def dG:Nat→List MV→Option MV:=bm 79 (Fj bR) zS
theorem gm:aq Tryz.prog cx dG:=lY Ge [] 32 [] [] [(4,⟨[1,2,15,16],[],[(17,.sc (.k (.i .i64)))],[(1,[(6,.sc (.k .b))]),(2,[])],[]⟩)] Tryz.func79 (by kernel_rfl) (qq (fun _ _ _=>by kernel_rfl))
noncomputable def vL (a b:MV):Option MV:=
 gA a fun cs=>
 iK .i64 cs fun ei dR jt eG Seen=>
 gA b fun fU=>
 iK .i64 fU fun qA pF xB s4 Da=>
 bd (
 bd (vH (.agg [.list ei]) (.agg [.list qA])) fun rA=>
 gB rA fun x=>
 a8 x (
 bd (vI (.agg [.i .i64 dR,.list jt]) (.agg [.i .i64 pF,.list xB])) fun aY=>
 gB aY fun x1=>
 a8 x1 (
 bd (vJ (.agg [.list eG]) (.agg [.list s4])) fun cX=>
 gB cX fun x2=>
 a8 x2 (
 bd (bR (.list Seen) (.list Da) (.func 80 [])) fun oo=>
 gB oo fun x3=>
 some [.b x3]) (
 some [.b false])) (
 some [.b false])) (
 some [.b false])) fun vs=>
 gC vs fun RF um=>
 gB RF fun x4=>
 gN um<|
 some (.b x4)
noncomputable def Gf:Nat→List MV→Option MV:=bm 34 (fG vL) dG
theorem Gg:aq Tryz.prog cx Gf:=lY gm [] 31 [(1,⟨[2,3],[],[],[(0,[(4,.sc (.k .b))])],[]⟩)] [] [] Tryz.func34 (by kernel_rfl) (bD (fun _ _=>by kernel_rfl))
noncomputable def nh:Option MV:=
 bd (yz) fun rA=>
 gA rA fun cs=>
 iK .i64 cs fun ei dR jt eG Seen=>
 bd (ng (.agg (eF ei dR jt eG Seen)) (.agg (c8 1 1 1 ([47,97]:List UInt8) ([120]:List UInt8) 0 0 0))) fun aY=>
 gT aY fun vs=>
 gC vs fun m5 nF=>
 gA m5 fun fU=>
 iK .i64 fU fun qA pF xB s4 Da=>
 gC nF fun Vj ul=>
 gA Vj fun qE=>
 bK .i64 .i64 .i64 .i64 qE fun Client Seq E Value Version Names=>
 gC ul fun Yu Fv=>
 gL Yu fun x=>
 gN Fv<|
 bd (ng (.agg (eF qA pF xB s4 Da)) (.agg (c8 1 1 1 ([47,97]:List UInt8) ([120]:List UInt8) 0 0 0))) fun cX=>
 gT cX fun j8=>
 gC j8 fun m19 Fw=>
 gA m19 fun od=>
 iK .i64 od fun DY Gh Oy Kn VN=>
 gC Fw fun m25 A6=>
 gA m25 fun Vz=>
 bK .i64 .i64 .i64 .i64 Vz fun cG pR E1 dS b8 nG=>
 gC A6 fun m32 agz=>
 gL m32 fun x1=>
 gN agz<|
 bd (rB (.agg (eF DY Gh Oy Kn VN)) (.i .i64 1)) fun oo=>
 gT oo fun ql=>
 gC ql fun m33 agA=>
 gA m33 fun cs5=>
 bK .i64 .i64 .i64 .i64 cs5 fun AU YL E2 B9 uk Ov=>
 gC agA fun m40 FG=>
 gB m40 fun x2=>
 gN FG<|
 bd (
 a8 (decide (E=0)) (
 a8 (decide (E1=0)) (
 bG qA fun len=>
 a8 (decide ((len:Int)=2)) (
 bd (vL (.agg (eF qA pF xB s4 Da)) (.agg (eF DY Gh Oy Kn VN))) fun AO=>
 gB AO fun x3=>
 a8 x3 (
 a8 x2 (
 some [.b (decide (YL=1))]) (
 some [.b false])) (
 some [.b false])) (
 some [.b false])) (
 some [.b false])) (
 some [.b false])) fun YO=>
 gC YO fun m41 Mn=>
 gB m41 fun x4=>
 gN Mn<|
 some (.b x4)
noncomputable def I6:Nat→List MV→Option MV:=bm 17 (Oh nh) Gf
theorem HF:aq Tryz.prog cx I6:=AQ Gg [] [] 58 [] [] [] [(2,[1,0,2,3,4,5,6,7,8,9,10,11])] [(5,⟨[2,3,5,6,8,9],[],[],[(0,[(0,.sc (.k .b))])],[]⟩)] [] [] [] Tryz.func17 (by kernel_rfl) (AK (by kernel_rfl))
noncomputable def vM (rA lA:MV):Option MV:=
 gA rA fun cs=>
 iK .i64 cs fun ei dR jt eG Seen=>
 gL lA fun AY=>
 bG AY fun len=>
 bd (Loop (fun nF=>
 gC nF fun m5 tu=>
 gL m5 fun aY=>
 gC tu fun m6 pQ=>
 gI .i64 m6 fun cX=>
 gC pQ fun m7 ox=>
 gL m7 fun oo=>
 gC ox fun m8 FE=>
 gL m8 fun AO=>
 gC FE fun m9 um=>
 gL m9 fun tt=>
 gC um fun RF ul=>
 gL RF fun out=>
 L8 .i64 ul fun events x=>
 a8 (decide (x<(len:Int))) (
 idx AY x fun y=>
 gA y fun fU=>
 ka .i64 .i64 .i64 .i64 .i64 .i64 fU fun Client Seq Kind Path Value Version Session Span=>
 bd (ng (.agg (eF aY cX oo AO tt)) (.agg (c8 Client Seq Kind Path Value Version Session Span))) fun Dv=>
 gT Dv fun vs=>
 gC vs fun Ox pv=>
 gA Ox fun qE=>
 iK .i64 qE fun qA pF xB s4 Da=>
 gC pv fun m27 Ml=>
 gA m27 fun od=>
 bK .i64 .i64 .i64 .i64 od fun cG pR E dS b8 Names=>
 gC Ml fun m34 agB=>
 gL m34 fun x1=>
 gN agB<|
 bG out fun eW=>
 bG ([.agg (eI cG pR E dS b8 Names)]:List MV) fun gY=>
 cR (decide ((eW+gY) *72≤2^46))<|
 cR (ta 5 x1)<|
 bG events fun ru=>
 bG x1 fun zL=>
 cR (decide ((ru+zL) *56≤2^46))<|
 some (.inl [.list qA,.i .i64 pF,.list xB,.list s4,.list Da,.list (out++([.agg (eI cG pR E dS b8 Names)]:List MV)),.list (events++x1),.i .i64 (IntKind.wrap .i64 (x+1))])) (
 some (.inr (2,[.list aY,.i .i64 cX,.list oo,.list AO,.list tt,.list out,.list events])))) [.list ei,.i .i64 dR,.list jt,.list eG,.list Seen,.list ([]:List MV),.list ([]:List MV),.i .i64 0]) fun p=>
 cR (Nat.beq p.1 2)<|
 gC p.2 fun m35 AV=>
 gL m35 fun rA7=>
 gC AV fun m36 AW=>
 gI .i64 m36 fun rA8=>
 gC AW fun m37 AX=>
 gL m37 fun rA9=>
 gC AX fun m38 FF=>
 gL m38 fun akB=>
 gC FF fun m39 FG=>
 gL m39 fun akC=>
 gC FG fun m40 Mn=>
 gL m40 fun zM=>
 gC Mn fun m41 VM=>
 gL m41 fun YR=>
 gN VM<|
 some (.cK [.agg (eF rA7 rA8 rA9 akB akC),.list zM,.list YR])
noncomputable def Gi:Nat→List MV→Option MV:=bm 28 (fG vM) I6
theorem Gj:aq Tryz.prog cx Gi:=AQ HF [] [] 39 [29] [] [] [] [] [] [(4,⟨[4,14,15],[],[(2,.box [.k .l,.k (.i .i64),.k .l,.k .l,.k .l]),(7,.sc (.own 30 57 true)),(8,.sc (.own 33 79 true)),(16,.sc (.k (.i .i64)))],[(2,[(2,.box [.k .l,.k (.i .i64),.k .l,.k .l,.k .l]),(7,.sc (.own 30 57 true)),(8,.sc (.own 33 79 true))])],[29,30,33]⟩)] [] Tryz.func28 (by kernel_rfl) (bD (fun _ _=>by kernel_rfl))
noncomputable def rP (a a1 a2:MV):Option MV:=
 gA a fun cs=>
 iK .i64 cs fun ei dR jt eG Seen=>
 gA a1 fun fU=>
 ka .i64 .i64 .i64 .i64 .i64 .i64 fU fun Client Seq Kind Path Value Version Session Span=>
 gS a2 fun VO=>
 bd (
 bd (DW (.agg (eF ei dR jt eG Seen))) fun rA=>
 gB rA fun x=>
 a8 (!x) (
 some [.b true]) (
 bG Seen fun len=>
 a8 (decide ((45:Int)<(len:Int))) (
 some [.b true]) (
 bd (yl (.list ([.agg (c8 Client Seq Kind Path Value Version Session Span)]:List MV))) fun aY=>
 gB aY fun x1=>
 a8 (!x1) (
 some [.b true]) (
 a8 (decide ((1000:Int)<(VO.length:Int))) (
 some [.b true]) (
 bd (yr (.agg (eF ei dR jt eG Seen))) fun cX=>
 gA cX fun qE=>
 iK .i64 qE fun qA pF xB s4 Da=>
 bd (yq (.agg (eF qA pF xB s4 Da))) fun oo=>
 gB oo fun x2=>
 some [.b (!x2)]))))) fun vs=>
 gC vs fun Yu Fv=>
 gB Yu fun x3=>
 gN Fv<|
 a8 x3 (
 bd (nh) fun AO=>
 gB AO fun x4=>
 some (.b x4)) (
 bd (Loop (fun Fw=>
 L7 .i64 .i64 Fw fun x5 x6=>
 bG Seen fun eW=>
 a8 (decide (x6<(eW:Int))) (
 idx Seen x6 fun y=>
 gA y fun od=>
 bK .i64 .i64 .i64 .i64 od fun cG pR E dS b8 Names=>
 bd (
 a8 (decide (cG=x5)) (
 some (0,[.i .i64 (IntKind.wrap .i64 (x5+1))])) (
 some (0,[.i .i64 x5]))) fun p1=>
 cR (Nat.beq p1.1 0)<|
 gC p1.2 fun m27 Ml=>
 gI .i64 m27 fun x7=>
 gN Ml<|
 some (.inl [.i .i64 x7,.i .i64 (IntKind.wrap .i64 (x6+1))])) (
 some (.inr (2,[.i .i64 x5])))) [.i .i64 0,.i .i64 0]) fun p=>
 cR (Nat.beq p.1 2)<|
 gC p.2 fun m28 VH=>
 gI .i64 m28 fun x8=>
 gN VH<|
 bd (vM (.agg (eF ei dR jt eG Seen)) (.list ([.agg (c8 x8 1 3 Path VO (-1) 0 0),.agg (c8 x8 2 2 Path ([]:List UInt8) 0 0 0),.agg (c8 x8 3 4 Path ([]:List UInt8) (-1) 0 0),.agg (c8 x8 4 2 Path ([]:List UInt8) 0 0 0)]:List MV))) fun tt=>
 gT tt fun j8=>
 gC j8 fun m29 agC=>
 gA m29 fun Vz=>
 iK .i64 Vz fun DY Gh Oy Kn VN=>
 gC agC fun m35 AV=>
 gL m35 fun x9=>
 gC AV fun m36 AW=>
 gL m36 fun zo=>
 gN AW<|
 bd (
 bG x9 fun gY=>
 a8 (!decide ((gY:Int)=4)) (
 some [.b true]) (
 some [.b (decide ((100:Int)<(Path.length:Int)))])) fun ql=>
 gC ql fun m37 AX=>
 gB m37 fun BD=>
 gN AX<|
 a8 BD (
 bd (
 bd (nh) fun Dv=>
 gB Dv fun C0=>
 a8 C0 (
 bG x9 fun ru=>
 some [.b (decide ((ru:Int)=4))]) (
 some [.b false])) fun YO=>
 gC YO fun m38 FF=>
 gB m38 fun B8=>
 gN FF<|
 some (.b B8)) (
 idx x9 0 fun y1=>
 gA y1 fun cs5=>
 bK .i64 .i64 .i64 .i64 cs5 fun AU YL E1 B9 uk nG=>
 a8 (decide (E1=9)) (
 bd (
 bd (nh) fun rA7=>
 gB rA7 fun Dw=>
 a8 Dw (
 idx x9 1 fun y2=>
 gA y2 fun cs6=>
 bK .i64 .i64 .i64 .i64 cs6 fun YK akk E2 Ou Ma Ov=>
 a8 (decide (E2=0)) (
 idx x9 1 fun y3=>
 gA y3 fun cs7=>
 bK .i64 .i64 .i64 .i64 cs7 fun YM ao9 E3 aci Mb VB=>
 some [.b (decide (Mb=1000000000))]) (
 some [.b false])) (
 some [.b false])) fun vs4=>
 gC vs4 fun m57 VJ=>
 gB m57 fun Dx=>
 gN VJ<|
 some (.b Dx)) (
 idx x9 0 fun y4=>
 gA y4 fun cs8=>
 bK .i64 .i64 .i64 .i64 cs8 fun ah2 apc E4 ack VA akD=>
 a8 (!decide (E4=0)) (
 bd (
 bd (nh) fun rA8=>
 gB rA8 fun Fq=>
 a8 Fq (
 idx x9 1 fun y5=>
 gA y5 fun cs9=>
 bK .i64 .i64 .i64 .i64 cs9 fun ah3 ape E5 akE agD akF=>
 idx x9 0 fun y6=>
 gA y6 fun akG=>
 bK .i64 .i64 .i64 .i64 akG fun ah4 apf E6 akH agE akI=>
 a8 (decide (E5=E6)) (
 idx x9 3 fun y7=>
 gA y7 fun akJ=>
 bK .i64 .i64 .i64 .i64 akJ fun ah5 apg E7 akK agF akL=>
 idx x9 0 fun y8=>
 gA y8 fun akM=>
 bK .i64 .i64 .i64 .i64 akM fun ah6 aph E8 akN agG akO=>
 a8 (decide (E7=E8)) (
 bG DY fun zL=>
 bG ei fun Ot=>
 some [.b (decide ((zL:Int)=(Ot:Int)))]) (
 some [.b false])) (
 some [.b false])) (
 some [.b false])) fun vs5=>
 gC vs5 fun m88 agH=>
 gB m88 fun Fs=>
 gN agH<|
 some (.b Fs)) (
 bd (
 idx x9 1 fun y9=>
 gA y9 fun akP=>
 bK .i64 .i64 .i64 .i64 akP fun agI amN E9 ah7 adk akQ=>
 a8 (decide (E9=0)) (
 idx x9 1 fun y10=>
 gA y10 fun akR=>
 bK .i64 .i64 .i64 .i64 akR fun agJ amO E10 YS adl ah8=>
 a8 (decide (YS=VO)) (
 idx x9 1 fun y11=>
 gA y11 fun akS=>
 bK .i64 .i64 .i64 .i64 akS fun agK amP E11 ah9 RU aia=>
 idx x9 0 fun y12=>
 gA y12 fun akT=>
 bK .i64 .i64 .i64 .i64 akT fun agL amQ E12 aib RV aic=>
 some [.b (decide (RU=RV))]) (
 some [.b false])) (
 some [.b false])) fun vs6=>
 gC vs6 fun akU acw=>
 gB akU fun Ft=>
 gN acw<|
 bd (
 bd (nh) fun rA9=>
 gB rA9 fun Fu=>
 a8 Fu (
 a8 Ft (
 idx x9 2 fun y13=>
 gA y13 fun akV=>
 bK .i64 .i64 .i64 .i64 akV fun agM amR E13 aid adm aie=>
 a8 (!decide (E13=0)) (
 idx x9 2 fun y14=>
 gA y14 fun akW=>
 bK .i64 .i64 .i64 .i64 akW fun agN amS E14 aif adn aih=>
 a8 (decide (E14=0)) (
 some [.b true]) (
 idx x9 3 fun y15=>
 gA y15 fun akX=>
 bK .i64 .i64 .i64 .i64 akX fun agO amT E15 aii ado aij=>
 a8 (decide (E15=0)) (
 idx x9 3 fun y16=>
 gA y16 fun akY=>
 bK .i64 .i64 .i64 .i64 akY fun agP amU E16 YT adp aik=>
 some [.b (decide (YT=VO))]) (
 some [.b false]))) (
 idx x9 3 fun y17=>
 gA y17 fun akZ=>
 bK .i64 .i64 .i64 .i64 akZ fun agQ amV E17 ail adq aim=>
 a8 (decide (E17=6)) (
 idx x9 2 fun y18=>
 gA y18 fun ak0=>
 bK .i64 .i64 .i64 .i64 ak0 fun agR amW E18 ain adr aio=>
 a8 (decide (E18=0)) (
 some [.b true]) (
 idx x9 3 fun y19=>
 gA y19 fun ak1=>
 bK .i64 .i64 .i64 .i64 ak1 fun agS amX E19 aip ads aiq=>
 a8 (decide (E19=0)) (
 idx x9 3 fun y20=>
 gA y20 fun ak2=>
 bK .i64 .i64 .i64 .i64 ak2 fun agT amY E20 YU adt air=>
 some [.b (decide (YU=VO))]) (
 some [.b false]))) (
 some [.b false]))) (
 some [.b false])) (
 some [.b false])) fun vs7=>
 gC vs7 fun ak3 acx=>
 gB ak3 fun M8=>
 gN acx<|
 some (.b M8)))))
noncomputable def Gk:Nat→List MV→Option MV:=bm 7 (Fj rP) Gi
theorem zT:aq Tryz.prog cx Gk:=AQ Gj [] [] 227 [28,84] [] [] [(19,[0,1,2,3,4,5,6,7,8,9,10,11,12,13,14,15,16,17,18,19,20,21,22,23,24,25,26,27,28,29,30,31,32,33,34]),(20,[0,1,2,3,4,5,6,7,8,9,10,11,12,13,14,15,16,17,18,19,20,21,22,23,24])] [(21,⟨[2,14,16],[],[],[(0,[(6,.sc (.k .b))])],[28,84]⟩),(20,⟨[2,14],[],[],[(0,[(16,.sc (.k .b))])],[28,84]⟩),(19,⟨[3,13,14],[],[],[(0,[(6,.sc (.k .b))])],[28,84]⟩),(17,⟨[14],[],[],[(0,[(6,.sc (.k .b))])],[28,84]⟩),(15,⟨[14],[],[],[(0,[(6,.sc (.k .b))])],[28,84]⟩),(14,⟨[2,3,4,13,14],[],[],[(0,[(97,.sc (.k .b))])],[28,84]⟩),(1,⟨[2,3,4],[],[],[(0,[(42,.sc (.k .b))])],[28,84]⟩)] [(8,⟨[2,3,4,8],[],[],[(0,[(7,.sc (.k (.i .i64)))])],[28,84]⟩)] [(5,⟨[2,3,4],[],[(7,.sc (.k (.i .i64))),(8,.sc (.k (.i .i64)))],[(2,[(7,.sc (.k (.i .i64)))])],[28,84]⟩)] [] Tryz.func7 (by kernel_rfl) (qq (fun _ _ _=>by kernel_rfl))
end Dn.S
