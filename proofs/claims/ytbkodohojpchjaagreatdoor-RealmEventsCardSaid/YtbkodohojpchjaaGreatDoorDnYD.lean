import Derived.Test.YtbkodohojpchjaaGreatDoorDnYTab
import Derived.Test.YtbkodohojpchjaaGreatDoorDnC
import Derived.Test.YtbkodohojpchjaaGreatDoorDnD
import Derived.Test.YtbkodohojpchjaaGreatDoorDnYT
import Derived.KernelRfl
import Derived.Test.YtbkodohojpchjaaGreatDoorProg
/-
  The functions, on plain values, and their contracts. Conditions: none.
-/
open Go Dn Go.Proofs
set_option linter.unusedVariables false
set_option linter.unusedSimpArgs false
set_option maxRecDepth 100000
namespace Dn.S
theorem nC:j6 Tryz.prog (uo IJ):=T5 (by kernel_rfl)
theorem RG:Kp Tryz.prog (uo IJ):=NS (by kernel_rfl)
theorem vz:Tryz.prog.follows .mixedOrders=true:=by kernel_rfl
def K9 {R:Type} (k0:IntKind) (l0:List MV) (K:Int→Bool→Option R):Option R:=gC l0 fun m0 l1=>gI k0 m0 fun x0=>gC l1 fun m1 l2=>gB m1 fun x1=>gN l2<|K x0 x1
def J1 {R:Type} (k0 k1:IntKind) (l0:List MV) (K:Int→Int→Option R):Option R:=gC l0 fun m0 l1=>gI k0 m0 fun x0=>gC l1 fun m1 l2=>gI k1 m1 fun x1=>gN l2<|K x0 x1
def EI {R:Type} (k0 k1 k2:IntKind) (l0:List MV) (K:Int→Int→Int→Option R):Option R:=gC l0 fun m0 l1=>gI k0 m0 fun x0=>gC l1 fun m1 l2=>gI k1 m1 fun x1=>gC l2 fun m2 l3=>gI k2 m2 fun x2=>gN l3<|K x0 x1 x2
def fL {R:Type} (k0 k1 k2 k4:IntKind) (l0:List MV) (K:Int→Int→Int→List UInt8→Int→List MV→Option R):Option R:=gC l0 fun m0 l1=>gI k0 m0 fun x0=>gC l1 fun m1 l2=>gI k1 m1 fun x1=>gC l2 fun m2 l3=>gI k2 m2 fun x2=>gC l3 fun m3 l4=>gS m3 fun x3=>gC l4 fun m4 l5=>gI k4 m4 fun x4=>gC l5 fun m5 l6=>gL m5 fun x5=>gN l6<|K x0 x1 x2 x3 x4 x5
def jv {R:Type} (k0 k1 k2 k5 k6 k7:IntKind) (l0:List MV) (K:Int→Int→Int→List UInt8→List UInt8→Int→Int→Int→Option R):Option R:=gC l0 fun m0 l1=>gI k0 m0 fun x0=>gC l1 fun m1 l2=>gI k1 m1 fun x1=>gC l2 fun m2 l3=>gI k2 m2 fun x2=>gC l3 fun m3 l4=>gS m3 fun x3=>gC l4 fun m4 l5=>gS m4 fun x4=>gC l5 fun m5 l6=>gI k5 m5 fun x5=>gC l6 fun m6 l7=>gI k6 m6 fun x6=>gC l7 fun m7 l8=>gI k7 m7 fun x7=>gN l8<|K x0 x1 x2 x3 x4 x5 x6 x7
def La {R:Type} (k0:IntKind) (l0:List MV) (K:Int→List MV→Option R):Option R:=gC l0 fun m0 l1=>gI k0 m0 fun x0=>gC l1 fun m1 l2=>gL m1 fun x1=>gN l2<|K x0 x1
def ox {R:Type} (k1:IntKind) (l0:List MV) (K:List MV→Int→List MV→List MV→List MV→Option R):Option R:=gC l0 fun m0 l1=>gL m0 fun x0=>gC l1 fun m1 l2=>gI k1 m1 fun x1=>gC l2 fun m2 l3=>gL m2 fun x2=>gC l3 fun m3 l4=>gL m3 fun x3=>gC l4 fun m4 l5=>gL m4 fun x4=>gN l5<|K x0 x1 x2 x3 x4
def ax {R:Type} (k1 k5 k6 k7 Y2 k11 k12 k13 k14 k15 k17:IntKind) (l0:List MV) (K:List MV→Int→List MV→List MV→List MV→Int→Int→Int→List UInt8→List UInt8→Int→Int→Int→Int→Int→Int→List UInt8→Int→List MV→List MV→Option R):Option R:=gC l0 fun m0 l1=>gL m0 fun x0=>gC l1 fun m1 l2=>gI k1 m1 fun x1=>gC l2 fun m2 l3=>gL m2 fun x2=>gC l3 fun m3 l4=>gL m3 fun x3=>gC l4 fun m4 l5=>gL m4 fun x4=>gC l5 fun m5 l6=>gI k5 m5 fun x5=>gC l6 fun m6 l7=>gI k6 m6 fun x6=>gC l7 fun m7 l8=>gI k7 m7 fun x7=>gC l8 fun m8 l9=>gS m8 fun x8=>gC l9 fun m9 l10=>gS m9 fun x9=>gC l10 fun RH l11=>gI Y2 RH fun AX=>gC l11 fun X7 l12=>gI k11 X7 fun Bo=>gC l12 fun X8 l13=>gI k12 X8 fun C0=>gC l13 fun UJ l14=>gI k13 UJ fun C1=>gC l14 fun m14 l15=>gI k14 m14 fun BQ=>gC l15 fun m15 l16=>gI k15 m15 fun Bp=>gC l16 fun m16 l17=>gS m16 fun C2=>gC l17 fun m17 l18=>gI k17 m17 fun C3=>gC l18 fun m18 l19=>gL m18 fun C4=>gC l19 fun m19 l20=>gL m19 fun C5=>gN l20<|K x0 x1 x2 x3 x4 x5 x6 x7 x8 x9 AX Bo C0 C1 BQ Bp C2 C3 C4 C5
def EJ {R:Type} (k1:IntKind) (l0:List MV) (K:List UInt8→Int→Bool→Option R):Option R:=gC l0 fun m0 l1=>gS m0 fun x0=>gC l1 fun m1 l2=>gI k1 m1 fun x1=>gC l2 fun m2 l3=>gB m2 fun x2=>gN l3<|K x0 x1 x2
def xM {R:Type} (k1 k3:IntKind) (l0:List MV) (K:List UInt8→Int→Bool→Int→List UInt8→Option R):Option R:=gC l0 fun m0 l1=>gS m0 fun x0=>gC l1 fun m1 l2=>gI k1 m1 fun x1=>gC l2 fun m2 l3=>gB m2 fun x2=>gC l3 fun m3 l4=>gI k3 m3 fun x3=>gC l4 fun m4 l5=>gS m4 fun x4=>gN l5<|K x0 x1 x2 x3 x4
def ni {R:Type} (k2 k3:IntKind) (l0:List MV) (K:List UInt8→List UInt8→Int→Int→Option R):Option R:=gC l0 fun m0 l1=>gS m0 fun x0=>gC l1 fun m1 l2=>gS m1 fun x1=>gC l2 fun m2 l3=>gI k2 m2 fun x2=>gC l3 fun m3 l4=>gI k3 m3 fun x3=>gN l4<|K x0 x1 x2 x3
@[reducible] def jL (x0 : Int) (x1 : Int) (x2 : Int) (x3 : List UInt8) (x4 : Int) (x5 : List MV) : List MV := [.i .i64 x0, .i .i64 x1, .i .i64 x2, .s x3, .i .i64 x4, .list x5]
@[reducible] def ek (x0 : Int) (x1 : Int) (x2 : Int) (x3 : List UInt8) (x4 : List UInt8) (x5 : Int) (x6 : Int) (x7 : Int) : List MV := [.i .i64 x0, .i .i64 x1, .i .i64 x2, .s x3, .s x4, .i .i64 x5, .i .i64 x6, .i .i64 x7]
@[reducible] def lU (x0 : List MV) (x1 : Int) (x2 : List MV) (x3 : List MV) (x4 : List MV) : List MV := [.list x0, .i .i64 x1, .list x2, .list x3, .list x4]
@[reducible] def al (x0 : List MV) (x1 : Int) (x2 : List MV) (x3 : List MV) (x4 : List MV) (x5 : Int) (x6 : Int) (x7 : Int) (x8 : List UInt8) (x9 : List UInt8) (AX : Int) (Bo : Int) (C0 : Int) (C1 : Int) (BQ : Int) (Bp : Int) (C2 : List UInt8) (C3 : Int) (C4 : List MV) (C5 : List MV) : List MV := [.list x0, .i .i64 x1, .list x2, .list x3, .list x4, .i .i64 x5, .i .i64 x6, .i .i64 x7, .s x8, .s x9, .i .i64 AX, .i .i64 Bo, .i .i64 C0, .i .i64 C1, .i .i64 BQ, .i .i64 Bp, .s C2, .i .i64 C3, .list C4, .list C5]
@[reducible] def oY (x0 : List UInt8) (x1 : List UInt8) (x2 : Int) (x3 : Int) : List MV := [.s x0, .s x1, .i .i64 x2, .i .i64 x3]
def MI:List (Nat×pB)→Nat→pB
 |[],_=>default
 |(k,s)::r,t=>bif Nat.beq k t then s else MI r t
def RI:List (Nat×List Nat)→Nat→List Nat
 |[],_=>[]
 |(k,s)::r,t=>bif Nat.beq k t then s else RI r t
def RJ:List (Nat×Nat)→Nat→Nat
 |[],_=>0
 |(k,s)::r,t=>bif Nat.beq k t then s else RJ r t
def kk (n:Nat):Nat:=n
def gv (n:Nat):Bool:=bp [63,218,223,225,227,105,106,107,108,109,110,111,112,113,114,115,118,171,179] n
def frs (n:Nat):Bool:=bp [61,63,116,117,194,218,219,223,225,226,227] n
def Wr:List (Nat×Nat):=[(61,57),(63,57),(116,75),(117,75),(194,9),(218,98),(219,98),(223,98),(225,126),(226,126),(227,126)]
def MJ:List (Nat×FloatKind)→Nat→Option FloatKind
 |[],_=>none
 |(k,s)::r,t=>bif Nat.beq k t then some s else MJ r t
def RL:List (Nat×FloatKind):=[]
theorem RM: ∀t k,MJ RL t=some k→Tryz.prog.underlying t=some (.float k):=by
 intro t k h
 cases h
def RN:List (Nat×(Nat×Bool)):=[(222,(75,true))]
def RO:List (Nat×(Nat×List LK))→Nat→Option (Nat×List LK)
 |[],_=>none
 |(k,s)::r,t=>bif Nat.beq k t then some s else RO r t
abbrev iH:List LK:=[.k (.l),.k (.i .i64),.k (.l),.k (.l),.k (.l),.k (.i .i64),.k (.i .i64),.k (.i .i64),.k (.s),.k (.s),.k (.i .i64),.k (.i .i64),.k (.i .i64),.k (.i .i64),.k (.i .i64),.k (.i .i64),.k (.s),.k (.i .i64),.k (.l),.own 2000019 77 false]
abbrev MK:List LK:=[.own 2000000 79 false]
def RP:List (Nat×(Nat×List LK)):=[(105,(0,iH)),(106,(0,iH)),(107,(0,iH)),(108,(0,iH)),(109,(0,iH)),(110,(0,iH)),(111,(0,iH)),(112,(0,iH)),(113,(0,iH)),(114,(0,iH)),(115,(0,iH)),(118,(2,MK)),(171,(0,iH)),(179,(0,iH))]
def dl (n:Nat):Bool:=bp [117] n
def cx:Ctx:=⟨uo IJ,kk,fun _ _=>none,gv,frs,RJ Wr,RO RP,[],0,[],[],fun _=>[],MJ RL,CF RN,fun _=>[],fun _=>default,fun _=>default,fun _=>default,dl,[]⟩
def UK (g:Nat→List MV→Option MV) (par:List (Nat×Nat)) (n:Nat) (bs fl:List Nat) (fz ord:List (Nat×List Nat)) (HL Gp El:List (Nat×pB)) (dyn:List Nat):Ctx:=⟨uo IJ,kk,g,gv,frs,RJ Wr,RO RP,par,n,bs,fl,RI fz,MJ RL,CF RN,RI ord,MI HL,MI Gp,MI El,dl,dyn⟩
theorem RQ:zK Tryz.prog cx:=KP (l:=RN) (by kernel_rfl) (fun _ _ h=>h)
def iR (t:Nat):TI:=match uo IJ t with|some I=>I|none=>⟨false,0,0,[],[],[],[],0,[]⟩
theorem tv9:cx.tv 9=some (iR 9):=by kernel_rfl
theorem X9:cx.tv 22=some (iR 22):=by kernel_rfl
theorem Ya:cx.tv 25=some (iR 25):=by kernel_rfl
theorem afh:cx.tv 28=some (iR 28):=by kernel_rfl
theorem abo:cx.tv 31=some (iR 31):=by kernel_rfl
theorem abp:cx.tv 57=some (iR 57):=by kernel_rfl
theorem afi:cx.tv 75=some (iR 75):=by kernel_rfl
theorem Yb:cx.tv 98=some (iR 98):=by kernel_rfl
theorem RR:cx.tv 126=some (iR 126):=by kernel_rfl
theorem UL:G5 Tryz.prog cx 117 75:=by
 have hE:cx.tv 75=some (iR 75):=by kernel_rfl
 refine UG (P:=Tryz.prog) (f:=117) (fi:=182) (t:=28) (ti:=3) (tb:=4) (fu:=191) (el:=75) (fn:=Tryz.f117) (fni:=Tryz.f182) (r:=(fun k=>(([0,1,2,3,4,5,7,8,9,10,6,11,12]:List Nat)[k]?).getD 0)) (ri:=(fun k=>(([0,1,2,3,4,5,6,7]:List Nat)[k]?).getD 0)) (o:=gV Tryz.f117 gX) (oi:=gV Tryz.f182 gX) ⟨Tryz.func117,by kernel_rfl,by kernel_rfl,by kernel_rfl,by kernel_rfl,?_,by kernel_rfl⟩ ⟨Tryz.func182,by kernel_rfl,by kernel_rfl,by kernel_rfl,by kernel_rfl,?_,by kernel_rfl⟩ nC hE (by kernel_rfl) (Nat.le_of_ble_eq_true (by kernel_rfl))
 ·constructor<;>exact ⟨by kernel_rfl,by kernel_rfl,by kernel_rfl⟩
 ·constructor<;>exact ⟨by kernel_rfl,by kernel_rfl,by kernel_rfl⟩
theorem Ho:tB Tryz.prog cx:=by
 intro n hn
 unfold cx dl bp at hn
 cases Ws:Nat.beq 117 n with
 |true=>
  have:=Nat.eq_of_beq_eq_true Ws
  subst this
  exact UL
 |false=>
 simp only [Ws,cond_false] at hn
 try unfold bp at hn
 cases hn
def AY:Go.Shelf.Ren:=⟨fun|146=>194|221=>233|268=>252|138=>253|143=>254|195=>269|197=>270|218=>271|219=>272|260=>282|217=>283|225=>279|224=>278|267=>284|266=>286|314=>287|n=>n,fun|9=>9|31=>55|3=>3|4=>4|0=>0|105=>349|21=>21|5=>5|46=>226|119=>356|139=>359|138=>358|146=>327|51=>244|n=>n,fun|1=>0|3=>1|4=>2|n=>n⟩
theorem UM:Go.Proofs.Lays.n146 Tryz.prog AY:={
 mixed:=by kernel_rfl
 f138:=Tryz.func253.trans (congrArg some (by kernel_rfl))
 f143:=Tryz.func254.trans (congrArg some (by kernel_rfl))
 f146:=Tryz.func194.trans (congrArg some (by kernel_rfl))
 f195:=Tryz.func269.trans (congrArg some (by kernel_rfl))
 f197:=Tryz.func270.trans (congrArg some (by kernel_rfl))
 f217:=Tryz.func283.trans (congrArg some (by kernel_rfl))
 f218:=Tryz.func271.trans (congrArg some (by kernel_rfl))
 f219:=Tryz.func272.trans (congrArg some (by kernel_rfl))
 f221:=Tryz.func233.trans (congrArg some (by kernel_rfl))
 f224:=Tryz.func278.trans (congrArg some (by kernel_rfl))
 f225:=Tryz.func279.trans (congrArg some (by kernel_rfl))
 f260:=Tryz.func282.trans (congrArg some (by kernel_rfl))
 f266:=Tryz.func286.trans (congrArg some (by kernel_rfl))
 f267:=Tryz.func284.trans (congrArg some (by kernel_rfl))
 f268:=Tryz.func252.trans (congrArg some (by kernel_rfl))
 f314:=Tryz.func287.trans (congrArg some (by kernel_rfl))
 t0:=Tryz.underlying0
 a0:=Tryz.isAgg0
 z0:=Tryz.sizeOf0
 v0:=Tryz.zeroValue0
 t3:=Tryz.underlying3
 a3:=Tryz.isAgg3
 z3:=Tryz.sizeOf3
 v3:=Tryz.zeroValue3
 t4:=Tryz.underlying4
 a4:=Tryz.isAgg4
 z4:=Tryz.sizeOf4
 v4:=Tryz.zeroValue4
 t5:=Tryz.underlying5
 a5:=Tryz.isAgg5
 z5:=Tryz.sizeOf5
 v5:=Tryz.zeroValue5
 t9:=Tryz.underlying9
 a9:=Tryz.isAgg9
 z9:=Tryz.sizeOf9
 v9:=Tryz.zeroValue9
 t21:=Tryz.underlying21
 a21:=Tryz.isAgg21
 z21:=Tryz.sizeOf21
 v21:=Tryz.zeroValue21
 t31:=Tryz.underlying55
 a31:=Tryz.isAgg55
 z31:=Tryz.sizeOf55
 v31:=Tryz.zeroValue55
 t46:=Tryz.underlying226
 a46:=Tryz.isAgg226
 z46:=Tryz.sizeOf226
 v46:=Tryz.zeroValue226
 t51:=Tryz.underlying244
 a51:=Tryz.isAgg244
 z51:=Tryz.sizeOf244
 v51:=Tryz.zeroValue244
 t105:=Tryz.underlying349
 a105:=Tryz.isAgg349
 z105:=Tryz.sizeOf349
 v105:=Tryz.zeroValue349
 t119:=Tryz.underlying356
 a119:=Tryz.isAgg356
 z119:=Tryz.sizeOf356
 t138:=Tryz.underlying358
 a138:=Tryz.isAgg358
 z138:=Tryz.sizeOf358
 v138:=Tryz.zeroValue358
 t139:=Tryz.underlying359
 a139:=Tryz.isAgg359
 z139:=Tryz.sizeOf359
 v139:=Tryz.zeroValue359
 t146:=Tryz.underlying327
 a146:=Tryz.isAgg327
 z146:=Tryz.sizeOf327
 v146:=Tryz.zeroValue327
 g1:=by kernel_rfl
 g3:=by kernel_rfl
 g4:=by kernel_rfl}
def AZ:Go.Shelf.Ren:=⟨fun|160=>235|232=>256|231=>255|227=>257|234=>259|233=>258|236=>261|235=>260|228=>273|271=>274|151=>238|197=>270|120=>285|152=>263|260=>282|137=>276|119=>277|224=>278|225=>279|217=>283|266=>286|n=>n,fun|9=>9|4=>4|3=>3|5=>5|117=>341|116=>340|0=>0|124=>344|21=>21|105=>349|46=>226|119=>356|139=>359|138=>358|n=>n,fun|3=>1|4=>2|n=>n⟩
theorem UN:Go.Proofs.Lays.n160 Tryz.prog AZ:={
 mixed:=by kernel_rfl
 f119:=Tryz.func277.trans (congrArg some (by kernel_rfl))
 f120:=Tryz.func285.trans (congrArg some (by kernel_rfl))
 f137:=Tryz.func276.trans (congrArg some (by kernel_rfl))
 f151:=Tryz.func238.trans (congrArg some (by kernel_rfl))
 f152:=Tryz.func263.trans (congrArg some (by kernel_rfl))
 f160:=Tryz.func235.trans (congrArg some (by kernel_rfl))
 f197:=Tryz.func270.trans (congrArg some (by kernel_rfl))
 f217:=Tryz.func283.trans (congrArg some (by kernel_rfl))
 f224:=Tryz.func278.trans (congrArg some (by kernel_rfl))
 f225:=Tryz.func279.trans (congrArg some (by kernel_rfl))
 f227:=Tryz.func257.trans (congrArg some (by kernel_rfl))
 f228:=Tryz.func273.trans (congrArg some (by kernel_rfl))
 f231:=Tryz.func255.trans (congrArg some (by kernel_rfl))
 f232:=Tryz.func256.trans (congrArg some (by kernel_rfl))
 f233:=Tryz.func258.trans (congrArg some (by kernel_rfl))
 f234:=Tryz.func259.trans (congrArg some (by kernel_rfl))
 f235:=Tryz.func260.trans (congrArg some (by kernel_rfl))
 f236:=Tryz.func261.trans (congrArg some (by kernel_rfl))
 f260:=Tryz.func282.trans (congrArg some (by kernel_rfl))
 f266:=Tryz.func286.trans (congrArg some (by kernel_rfl))
 f271:=Tryz.func274.trans (congrArg some (by kernel_rfl))
 t0:=Tryz.underlying0
 a0:=Tryz.isAgg0
 z0:=Tryz.sizeOf0
 v0:=Tryz.zeroValue0
 t3:=Tryz.underlying3
 a3:=Tryz.isAgg3
 z3:=Tryz.sizeOf3
 v3:=Tryz.zeroValue3
 t4:=Tryz.underlying4
 a4:=Tryz.isAgg4
 z4:=Tryz.sizeOf4
 v4:=Tryz.zeroValue4
 t5:=Tryz.underlying5
 a5:=Tryz.isAgg5
 z5:=Tryz.sizeOf5
 v5:=Tryz.zeroValue5
 t9:=Tryz.underlying9
 a9:=Tryz.isAgg9
 z9:=Tryz.sizeOf9
 v9:=Tryz.zeroValue9
 t21:=Tryz.underlying21
 a21:=Tryz.isAgg21
 z21:=Tryz.sizeOf21
 v21:=Tryz.zeroValue21
 t46:=Tryz.underlying226
 a46:=Tryz.isAgg226
 z46:=Tryz.sizeOf226
 v46:=Tryz.zeroValue226
 t105:=Tryz.underlying349
 a105:=Tryz.isAgg349
 z105:=Tryz.sizeOf349
 v105:=Tryz.zeroValue349
 t116:=Tryz.underlying340
 a116:=Tryz.isAgg340
 z116:=Tryz.sizeOf340
 t117:=Tryz.underlying341
 a117:=Tryz.isAgg341
 z117:=Tryz.sizeOf341
 v117:=Tryz.zeroValue341
 t119:=Tryz.underlying356
 a119:=Tryz.isAgg356
 z119:=Tryz.sizeOf356
 t124:=Tryz.underlying344
 a124:=Tryz.isAgg344
 z124:=Tryz.sizeOf344
 v124:=Tryz.zeroValue344
 t138:=Tryz.underlying358
 a138:=Tryz.isAgg358
 z138:=Tryz.sizeOf358
 v138:=Tryz.zeroValue358
 t139:=Tryz.underlying359
 a139:=Tryz.isAgg359
 z139:=Tryz.sizeOf359
 v139:=Tryz.zeroValue359
 g3:=by kernel_rfl
 g4:=by kernel_rfl}
def A0:Go.Shelf.Ren:=⟨fun|151=>238|152=>263|137=>276|119=>277|224=>278|225=>279|217=>283|266=>286|n=>n,fun|9=>9|21=>21|4=>4|3=>3|5=>5|0=>0|46=>226|n=>n,fun|n=>n⟩
theorem UO:Go.Proofs.Lays.n151 Tryz.prog A0:={
 mixed:=by kernel_rfl
 f119:=Tryz.func277.trans (congrArg some (by kernel_rfl))
 f137:=Tryz.func276.trans (congrArg some (by kernel_rfl))
 f151:=Tryz.func238.trans (congrArg some (by kernel_rfl))
 f152:=Tryz.func263.trans (congrArg some (by kernel_rfl))
 f217:=Tryz.func283.trans (congrArg some (by kernel_rfl))
 f224:=Tryz.func278.trans (congrArg some (by kernel_rfl))
 f225:=Tryz.func279.trans (congrArg some (by kernel_rfl))
 f266:=Tryz.func286.trans (congrArg some (by kernel_rfl))
 t0:=Tryz.underlying0
 a0:=Tryz.isAgg0
 z0:=Tryz.sizeOf0
 v0:=Tryz.zeroValue0
 t3:=Tryz.underlying3
 a3:=Tryz.isAgg3
 z3:=Tryz.sizeOf3
 v3:=Tryz.zeroValue3
 t4:=Tryz.underlying4
 a4:=Tryz.isAgg4
 z4:=Tryz.sizeOf4
 v4:=Tryz.zeroValue4
 t5:=Tryz.underlying5
 a5:=Tryz.isAgg5
 z5:=Tryz.sizeOf5
 v5:=Tryz.zeroValue5
 t9:=Tryz.underlying9
 a9:=Tryz.isAgg9
 z9:=Tryz.sizeOf9
 v9:=Tryz.zeroValue9
 t21:=Tryz.underlying21
 a21:=Tryz.isAgg21
 z21:=Tryz.sizeOf21
 v21:=Tryz.zeroValue21
 t46:=Tryz.underlying226
 a46:=Tryz.isAgg226
 z46:=Tryz.sizeOf226
 v46:=Tryz.zeroValue226}
theorem UP {g:Nat→List MV→Option MV} (h:ap Tryz.prog cx g):ap Tryz.prog cx (br 194 vv g):=h.Bn (fun _=>rfl) (fun ms r hr=>Rw (P:=Tryz.prog) (ρ:=AY) (c:=cx) UM (by kernel_rfl) (by kernel_rfl) (by kernel_rfl) tv9 (by kernel_rfl) hr)
theorem UQ {g:Nat→List MV→Option MV} (h:ap Tryz.prog cx g):ap Tryz.prog cx (br 235 CU g):=h.Bn (fun _=>rfl) (fun ms r hr=>UB (P:=Tryz.prog) (ρ:=AZ) (c:=cx) UN (by kernel_rfl) (by kernel_rfl) hr)
theorem UR {g:Nat→List MV→Option MV} (h:ap Tryz.prog cx g):ap Tryz.prog cx (br 238 pN g):=h.Bn (fun _=>rfl) (fun ms r hr=>K6 (P:=Tryz.prog) (ρ:=A0) (c:=cx) UO (by kernel_rfl) hr)
theorem Yc {g:Nat→List MV→Option MV} (h:ap Tryz.prog cx g):ap Tryz.prog cx (br 61 (fb 6 72) g):=h.Bn (fun _=>rfl) (fun ms r hr=>by
 obtain ⟨xs,rfl,rfl,h1,h2⟩:=qY hr
 exact yH (P:=Tryz.prog) (c:=cx) (f:=61) (fn:=Tryz.f61) (t:=31) (I:=iR 31) (E:=iR 57) (i0:=0) (i1:=1) (i2:=2) (i3:=3) (oA:=gV Tryz.f61 gX 0) (oB:=gV Tryz.f61 gX 1) (oC:=gV Tryz.f61 gX 2) (oD:=gV Tryz.f61 gX 3) (oE:=gV Tryz.f61 gX 4) (oF:=gV Tryz.f61 gX 5) (oG:=gV Tryz.f61 gX 6) (oH:=gV Tryz.f61 gX 7) nC abo (by kernel_rfl) abp (Nat.le_of_ble_eq_true (by kernel_rfl)) (by kernel_rfl) (by kernel_rfl) Tryz.func61 (by kernel_rfl) (by kernel_rfl) (by kernel_rfl) (by kernel_rfl)
  ⟨by kernel_rfl,by kernel_rfl,by kernel_rfl⟩ ⟨by kernel_rfl,by kernel_rfl,by kernel_rfl⟩ ⟨by kernel_rfl,by kernel_rfl,by kernel_rfl⟩ ⟨by kernel_rfl,by kernel_rfl,by kernel_rfl⟩ ⟨by kernel_rfl,by kernel_rfl,by kernel_rfl⟩ ⟨by kernel_rfl,by kernel_rfl,by kernel_rfl⟩ ⟨by kernel_rfl,by kernel_rfl,by kernel_rfl⟩ ⟨by kernel_rfl,by kernel_rfl,by kernel_rfl⟩ (by rw [show (iR 57).size=6 by kernel_rfl];exact h1) (by rw [show (iR 57).bytes=72 by kernel_rfl];exact h2))
theorem abq:CQ Tryz.prog 63 31 3 4 57 122 Tryz.f63 (fun k=>k) (gV Tryz.f63 gX) (Hb (gV Tryz.f63 gX)):=by
 refine ⟨Tryz.func63,by kernel_rfl,by kernel_rfl,by kernel_rfl,by kernel_rfl,?_,vz,by kernel_rfl⟩
 constructor<;>first|exact ⟨by kernel_rfl,by kernel_rfl,by kernel_rfl⟩|kernel_rfl
theorem afj: ∀args w,(callFunc 122 args).run Tryz.prog w=((Extern.SlicesOverlaps.overlaps #[31,31] #[4] args).run Tryz.prog w).andThen fun v w'=> .ok (.value v) w':=fun args w=>run_callFunc_extern Tryz.func122 (by kernel_rfl) (by kernel_rfl) (by kernel_rfl) (e:=Extern.SlicesOverlaps.overlaps #[31,31] #[4]) (by kernel_rfl) args w
theorem Yd {g:Nat→List MV→Option MV} (h:ap Tryz.prog cx g):ap Tryz.prog cx (br 63 (iO 72) g):=h.Bn (fun _=>rfl) (fun ms r hr=>by
 obtain ⟨xs,ys,i,rfl,rfl,h1,h2,h3⟩:=tD hr
 exact zU (P:=Tryz.prog) (c:=cx) (I:=iR 31) (E:=iR 57) abq nC abo (by kernel_rfl) abp (Nat.le_of_ble_eq_true (by kernel_rfl)) (by kernel_rfl) (by kernel_rfl) (by kernel_rfl) (by kernel_rfl) afj h1 h2 (by rw [show (iR 57).bytes=72 by kernel_rfl];exact h3))
theorem US {g:Nat→List MV→Option MV} (h:ap Tryz.prog cx g):ap Tryz.prog cx (br 116 (fb 3 32) g):=h.Bn (fun _=>rfl) (fun ms r hr=>by
 obtain ⟨xs,rfl,rfl,h1,h2⟩:=qY hr
 exact yH (P:=Tryz.prog) (c:=cx) (f:=116) (fn:=Tryz.f116) (t:=28) (I:=iR 28) (E:=iR 75) (i0:=0) (i1:=1) (i2:=2) (i3:=3) (oA:=gV Tryz.f116 gX 0) (oB:=gV Tryz.f116 gX 1) (oC:=gV Tryz.f116 gX 2) (oD:=gV Tryz.f116 gX 3) (oE:=gV Tryz.f116 gX 4) (oF:=gV Tryz.f116 gX 5) (oG:=gV Tryz.f116 gX 6) (oH:=gV Tryz.f116 gX 7) nC afh (by kernel_rfl) afi (Nat.le_of_ble_eq_true (by kernel_rfl)) (by kernel_rfl) (by kernel_rfl) Tryz.func116 (by kernel_rfl) (by kernel_rfl) (by kernel_rfl) (by kernel_rfl)
  ⟨by kernel_rfl,by kernel_rfl,by kernel_rfl⟩ ⟨by kernel_rfl,by kernel_rfl,by kernel_rfl⟩ ⟨by kernel_rfl,by kernel_rfl,by kernel_rfl⟩ ⟨by kernel_rfl,by kernel_rfl,by kernel_rfl⟩ ⟨by kernel_rfl,by kernel_rfl,by kernel_rfl⟩ ⟨by kernel_rfl,by kernel_rfl,by kernel_rfl⟩ ⟨by kernel_rfl,by kernel_rfl,by kernel_rfl⟩ ⟨by kernel_rfl,by kernel_rfl,by kernel_rfl⟩ (by rw [show (iR 75).size=3 by kernel_rfl];exact h1) (by rw [show (iR 75).bytes=32 by kernel_rfl];exact h2))
theorem Ye:CQ Tryz.prog 218 22 3 4 98 246 Tryz.f218 (fun k=>k) (gV Tryz.f218 gX) (Hb (gV Tryz.f218 gX)):=by
 refine ⟨Tryz.func218,by kernel_rfl,by kernel_rfl,by kernel_rfl,by kernel_rfl,?_,vz,by kernel_rfl⟩
 constructor<;>first|exact ⟨by kernel_rfl,by kernel_rfl,by kernel_rfl⟩|kernel_rfl
theorem abr: ∀args w,(callFunc 246 args).run Tryz.prog w=((Extern.SlicesOverlaps.overlaps #[22,22] #[4] args).run Tryz.prog w).andThen fun v w'=> .ok (.value v) w':=fun args w=>run_callFunc_extern Tryz.func246 (by kernel_rfl) (by kernel_rfl) (by kernel_rfl) (e:=Extern.SlicesOverlaps.overlaps #[22,22] #[4]) (by kernel_rfl) args w
theorem UT {g:Nat→List MV→Option MV} (h:ap Tryz.prog cx g):ap Tryz.prog cx (br 218 (iO 48) g):=h.Bn (fun _=>rfl) (fun ms r hr=>by
 obtain ⟨xs,ys,i,rfl,rfl,h1,h2,h3⟩:=tD hr
 exact zU (P:=Tryz.prog) (c:=cx) (I:=iR 22) (E:=iR 98) Ye nC X9 (by kernel_rfl) Yb (Nat.le_of_ble_eq_true (by kernel_rfl)) (by kernel_rfl) (by kernel_rfl) (by kernel_rfl) (by kernel_rfl) abr h1 h2 (by rw [show (iR 98).bytes=48 by kernel_rfl];exact h3))
theorem UU {g:Nat→List MV→Option MV} (h:ap Tryz.prog cx g):ap Tryz.prog cx (br 219 (fb 4 48) g):=h.Bn (fun _=>rfl) (fun ms r hr=>by
 obtain ⟨xs,rfl,rfl,h1,h2⟩:=qY hr
 exact yH (P:=Tryz.prog) (c:=cx) (f:=219) (fn:=Tryz.f219) (t:=22) (I:=iR 22) (E:=iR 98) (i0:=0) (i1:=1) (i2:=2) (i3:=3) (oA:=gV Tryz.f219 gX 0) (oB:=gV Tryz.f219 gX 1) (oC:=gV Tryz.f219 gX 2) (oD:=gV Tryz.f219 gX 3) (oE:=gV Tryz.f219 gX 4) (oF:=gV Tryz.f219 gX 5) (oG:=gV Tryz.f219 gX 6) (oH:=gV Tryz.f219 gX 7) nC X9 (by kernel_rfl) Yb (Nat.le_of_ble_eq_true (by kernel_rfl)) (by kernel_rfl) (by kernel_rfl) Tryz.func219 (by kernel_rfl) (by kernel_rfl) (by kernel_rfl) (by kernel_rfl)
  ⟨by kernel_rfl,by kernel_rfl,by kernel_rfl⟩ ⟨by kernel_rfl,by kernel_rfl,by kernel_rfl⟩ ⟨by kernel_rfl,by kernel_rfl,by kernel_rfl⟩ ⟨by kernel_rfl,by kernel_rfl,by kernel_rfl⟩ ⟨by kernel_rfl,by kernel_rfl,by kernel_rfl⟩ ⟨by kernel_rfl,by kernel_rfl,by kernel_rfl⟩ ⟨by kernel_rfl,by kernel_rfl,by kernel_rfl⟩ ⟨by kernel_rfl,by kernel_rfl,by kernel_rfl⟩ (by rw [show (iR 98).size=4 by kernel_rfl];exact h1) (by rw [show (iR 98).bytes=48 by kernel_rfl];exact h2))
theorem Yf:I7 Tryz.prog 223 22 3 98 Tryz.f223 (fun k=>k) (gV Tryz.f223 gX):=by
 refine ⟨Tryz.func223,by kernel_rfl,by kernel_rfl,by kernel_rfl,by kernel_rfl,?_,vz,by kernel_rfl⟩
 constructor<;>first|exact ⟨by kernel_rfl,by kernel_rfl,by kernel_rfl⟩|kernel_rfl
theorem UW {g:Nat→List MV→Option MV} (h:ap Tryz.prog cx g):ap Tryz.prog cx (br 223 nN g):=h.Bn (fun _=>rfl) (fun ms r hr=>by
 obtain ⟨xs,i,j,rfl,rfl,h1,h2⟩:=yM hr
 exact FL (P:=Tryz.prog) (c:=cx) (I:=iR 22) (E:=iR 98) Yf nC X9 (by kernel_rfl) Yb (by kernel_rfl) (by kernel_rfl) (by kernel_rfl) h1 h2)
theorem Yg:CQ Tryz.prog 225 25 3 4 126 248 Tryz.f225 (fun k=>k) (gV Tryz.f225 gX) (Hb (gV Tryz.f225 gX)):=by
 refine ⟨Tryz.func225,by kernel_rfl,by kernel_rfl,by kernel_rfl,by kernel_rfl,?_,vz,by kernel_rfl⟩
 constructor<;>first|exact ⟨by kernel_rfl,by kernel_rfl,by kernel_rfl⟩|kernel_rfl
theorem abt: ∀args w,(callFunc 248 args).run Tryz.prog w=((Extern.SlicesOverlaps.overlaps #[25,25] #[4] args).run Tryz.prog w).andThen fun v w'=> .ok (.value v) w':=fun args w=>run_callFunc_extern Tryz.func248 (by kernel_rfl) (by kernel_rfl) (by kernel_rfl) (e:=Extern.SlicesOverlaps.overlaps #[25,25] #[4]) (by kernel_rfl) args w
theorem UX {g:Nat→List MV→Option MV} (h:ap Tryz.prog cx g):ap Tryz.prog cx (br 225 (iO 24) g):=h.Bn (fun _=>rfl) (fun ms r hr=>by
 obtain ⟨xs,ys,i,rfl,rfl,h1,h2,h3⟩:=tD hr
 exact zU (P:=Tryz.prog) (c:=cx) (I:=iR 25) (E:=iR 126) Yg nC Ya (by kernel_rfl) RR (Nat.le_of_ble_eq_true (by kernel_rfl)) (by kernel_rfl) (by kernel_rfl) (by kernel_rfl) (by kernel_rfl) abt h1 h2 (by rw [show (iR 126).bytes=24 by kernel_rfl];exact h3))
theorem UY {g:Nat→List MV→Option MV} (h:ap Tryz.prog cx g):ap Tryz.prog cx (br 226 (fb 3 24) g):=h.Bn (fun _=>rfl) (fun ms r hr=>by
 obtain ⟨xs,rfl,rfl,h1,h2⟩:=qY hr
 exact yH (P:=Tryz.prog) (c:=cx) (f:=226) (fn:=Tryz.f226) (t:=25) (I:=iR 25) (E:=iR 126) (i0:=0) (i1:=1) (i2:=2) (i3:=3) (oA:=gV Tryz.f226 gX 0) (oB:=gV Tryz.f226 gX 1) (oC:=gV Tryz.f226 gX 2) (oD:=gV Tryz.f226 gX 3) (oE:=gV Tryz.f226 gX 4) (oF:=gV Tryz.f226 gX 5) (oG:=gV Tryz.f226 gX 6) (oH:=gV Tryz.f226 gX 7) nC Ya (by kernel_rfl) RR (Nat.le_of_ble_eq_true (by kernel_rfl)) (by kernel_rfl) (by kernel_rfl) Tryz.func226 (by kernel_rfl) (by kernel_rfl) (by kernel_rfl) (by kernel_rfl)
  ⟨by kernel_rfl,by kernel_rfl,by kernel_rfl⟩ ⟨by kernel_rfl,by kernel_rfl,by kernel_rfl⟩ ⟨by kernel_rfl,by kernel_rfl,by kernel_rfl⟩ ⟨by kernel_rfl,by kernel_rfl,by kernel_rfl⟩ ⟨by kernel_rfl,by kernel_rfl,by kernel_rfl⟩ ⟨by kernel_rfl,by kernel_rfl,by kernel_rfl⟩ ⟨by kernel_rfl,by kernel_rfl,by kernel_rfl⟩ ⟨by kernel_rfl,by kernel_rfl,by kernel_rfl⟩ (by rw [show (iR 126).size=3 by kernel_rfl];exact h1) (by rw [show (iR 126).bytes=24 by kernel_rfl];exact h2))
theorem Yh:I7 Tryz.prog 227 25 3 126 Tryz.f227 (fun k=>k) (gV Tryz.f227 gX):=by
 refine ⟨Tryz.func227,by kernel_rfl,by kernel_rfl,by kernel_rfl,by kernel_rfl,?_,vz,by kernel_rfl⟩
 constructor<;>first|exact ⟨by kernel_rfl,by kernel_rfl,by kernel_rfl⟩|kernel_rfl
theorem UZ {g:Nat→List MV→Option MV} (h:ap Tryz.prog cx g):ap Tryz.prog cx (br 227 nN g):=h.Bn (fun _=>rfl) (fun ms r hr=>by
 obtain ⟨xs,i,j,rfl,rfl,h1,h2⟩:=yM hr
 exact FL (P:=Tryz.prog) (c:=cx) (I:=iR 25) (E:=iR 126) Yh nC Ya (by kernel_rfl) RR (by kernel_rfl) (by kernel_rfl) (by kernel_rfl) h1 h2)
noncomputable def H61:Nat→List MV→Option MV:=br 61 (fb 6 72) (fun _ _=>none)
theorem RS:ap Tryz.prog cx H61:=Yc (ap.none _ _)
noncomputable def H63:Nat→List MV→Option MV:=br 63 (iO 72) H61
theorem RT:ap Tryz.prog cx H63:=Yd RS
noncomputable def abu:Nat→List MV→Option MV:=br 116 (fb 3 32) H63
theorem Oc:ap Tryz.prog cx abu:=US RT
noncomputable def abv:Nat→List MV→Option MV:=br 194 vv abu
theorem Od:ap Tryz.prog cx abv:=UP Oc
noncomputable def abw:Nat→List MV→Option MV:=br 218 (iO 48) abv
theorem Oe:ap Tryz.prog cx abw:=UT Od
noncomputable def abx:Nat→List MV→Option MV:=br 219 (fb 4 48) abw
theorem Of:ap Tryz.prog cx abx:=UU Oe
noncomputable def aby:Nat→List MV→Option MV:=br 223 nN abx
theorem Og:ap Tryz.prog cx aby:=UW Of
noncomputable def abz:Nat→List MV→Option MV:=br 225 (iO 24) aby
theorem Oh:ap Tryz.prog cx abz:=UX Og
noncomputable def abA:Nat→List MV→Option MV:=br 226 (fb 3 24) abz
theorem Oi:ap Tryz.prog cx abA:=UY Oh
noncomputable def abB:Nat→List MV→Option MV:=br 227 nN abA
theorem Oj:ap Tryz.prog cx abB:=UZ Oi
noncomputable def abC:Nat→List MV→Option MV:=br 235 CU abB
theorem Ok:ap Tryz.prog cx abC:=UQ Oj
noncomputable def abD:Nat→List MV→Option MV:=br 238 pN abC
theorem Ol:ap Tryz.prog cx abD:=UR Ok
theorem Hp {g:Nat→List MV→Option MV} (s:ap Tryz.prog cx g) (bQ:List (List Kd)) (par:List (Nat×Nat)) (tn:Nat) (bs fl:List Nat) (fz ord:List (Nat×List Nat)) (HL Gp El:List (Nat×pB)) (dyn:List Nat) {n:Nat} {fn:Func} {F:List MV→Option MV} (hf:Tryz.prog.funcs[n]? =some fn)
 (hh:I3 (UK g par tn bs fl fz ord HL Gp El dyn) n fn bQ=true) (hF: ∀{ms r},F ms=some r→E6 (UK g par tn bs fl fz ord HL Gp El dyn) bQ none fn ms=some r):ap Tryz.prog cx (br n F g):=
 s.fn (c':=UK g par tn bs fl fz ord HL Gp El dyn) ⟨rfl,rfl,rfl,rfl,rfl,rfl,rfl,rfl,rfl⟩ rfl nC RG RM RQ vz Ho hf hh (fun _=>rfl) hF
theorem mY {g:Nat→List MV→Option MV} (s:ap Tryz.prog cx g) (bQ:List (List Kd)) (tn:Nat) (HL Gp El:List (Nat×pB)) {n:Nat} {fn:Func} {F:List MV→Option MV} (hf:Tryz.prog.funcs[n]? =some fn)
 (hh:I3 (UK g [] tn [] [] [] [] HL Gp El []) n fn bQ=true) (hF: ∀{ms r},F ms=some r→E6 (UK g [] tn [] [] [] [] HL Gp El []) bQ none fn ms=some r):ap Tryz.prog cx (br n F g):=Hp s bQ [] tn [] [] [] [] HL Gp El [] hf hh hF
theorem J0 {g:Nat→List MV→Option MV} (s:ap Tryz.prog cx g) (pos:Nat) (ks:List LK) (bQ:List (List Kd)) (par:List (Nat×Nat)) (tn:Nat) (bs fl:List Nat) (fz ord:List (Nat×List Nat)) (HL Gp El:List (Nat×pB)) (dyn:List Nat) {n:Nat} {fn:Func} {F:List MV→Option MV} (hf:Tryz.prog.funcs[n]? =some fn) (hs:cx.sig n=some (pos,ks))
 (hh:Mt (UK g par tn bs fl fz ord HL Gp El dyn) n fn bQ=true) (hF: ∀{ms r},F ms=some r→E5 (UK g par tn bs fl fz ord HL Gp El dyn) bQ pos ks fn ms=some r):ap Tryz.prog cx (br n F g):=
 s.J0 nC RG RM RQ vz Ho hf hs (fun _=>rfl) fun h=>⟨UK g par tn bs fl fz ord HL Gp El dyn,⟨rfl,rfl,rfl,rfl,rfl,rfl,rfl,rfl,rfl⟩,rfl,hh,hF h⟩
abbrev Om (d:List MV→Option MV):List MV→Option MV:=fun ms=>match ms with|[.cell (.func off a0)]=>(match Nat.beq off 0 with|true=>d a0|false=>none)|_=>none
theorem pZ {d:List MV→Option MV} {B:List MV→Option MV} (h: ∀a0,B [.cell (.func 0 a0)]=d a0) {ms:List MV} {r:MV} (e:Om d ms=some r):B ms=some r:=by
 unfold Om at e
 split at e
 ·rename_i off a0
  cases ho:Nat.beq off 0 with
  |true=>
   have:=Nat.eq_of_beq_eq_true ho
   subst this
   exact (h _).trans e
  |false=>rw [ho] at e;cases e
 ·cases e
abbrev cl2 (d:List MV→MV→Option MV):List MV→Option MV:=fun ms=>match ms with|[.cell (.func off a0),a1]=>(match Nat.beq off 0 with|true=>d a0 a1|false=>none)|_=>none
theorem RU {d:List MV→MV→Option MV} {B:List MV→Option MV} (h: ∀a0 a1,B [.cell (.func 0 a0),a1]=d a0 a1) {ms:List MV} {r:MV} (e:cl2 d ms=some r):B ms=some r:=by
 unfold cl2 at e
 split at e
 ·rename_i off a0 a1
  cases ho:Nat.beq off 0 with
  |true=>
   have:=Nat.eq_of_beq_eq_true ho
   subst this
   exact (h _ _).trans e
  |false=>rw [ho] at e;cases e
 ·cases e
noncomputable def wm (lA:MV):Option MV:=
 gL lA fun Jh=>
 bd (Loop (fun jB=>
 gC jB fun m gE=>
 gI .i64 m fun i=>
 gN gE<|
 cD Jh fun len=>
 bC (decide (i<(len:Int))) (
 bd (
 bC (decide (i=30)) (
 some [.b true]) (
 idx Jh i fun y=>
 gA y fun cs=>
 jv .i64 .i64 .i64 .i64 .i64 .i64 cs fun Client Seq Kind Path Value Version Session Span=>
 bC (decide ((200:Int)<(Path.length:Int))) (
 some [.b true]) (
 idx Jh i fun y1=>
 gA y1 fun iL=>
 jv .i64 .i64 .i64 .i64 .i64 .i64 iL fun fg vA FU kh gG cW C6 yQ=>
 some [.b (decide ((1100:Int)<(gG.length:Int)))]))) fun vs=>
 gC vs fun m17 RV=>
 gB m17 fun x=>
 gN RV<|
 bC x (
 some (.inr (1,[.b false]))) (
 some (.inl [.i .i64 (IntKind.wrap .i64 (i+1))]))) (
 some (.inr (2,[])))) [.i .i64 0]) fun p=>
 bC (Nat.beq p.1 2) (
 gN p.2<|
 some (.b true)) (
 dv (Nat.beq p.1 1)<|
 gC p.2 fun m18 RW=>
 gB m18 fun x1=>
 gN RW<|
 some (.b x1))
noncomputable def FV:Nat→List MV→Option MV:=br 14 (wN wm) abD
theorem EK:ap Tryz.prog cx FV:=mY Ol [] 30 [(4,⟨[0,3],[],[],[(0,[(29,.sc (.k .b))])],[]⟩)] [] [(2,⟨[0],[],[(3,.sc (.k (.i .i64)))],[(1,[(2,.sc (.k .b))]),(2,[])],[]⟩)] Tryz.func14 (by kernel_rfl) (jI (fun _=>by kernel_rfl))
noncomputable def lH (o:MV):Option MV:=
 gA o fun cs=>
 jv .i64 .i64 .i64 .i64 .i64 .i64 cs fun Client Seq Kind Path Value Version Session Span=>
 bC (decide (Kind=1)) (
 some (.agg (ek Client Seq Kind Path Value 0 Session 0))) (
 bd (
 bC (decide (Kind=2)) (
 some (0,[.b (decide (Kind=2))])) (
 bd (
 bC (decide (Kind=5)) (
 some (0,[.b (decide (Kind=5))])) (
 bd (
 bC (decide (Kind=10)) (
 some (0,[.b (decide (Kind=10))])) (
 some (0,[.b (decide (Kind=11))]))) fun p2=>
 dv (Nat.beq p2.1 0)<|
 gC p2.2 fun m8 tF=>
 gB m8 fun x=>
 gN tF<|
 some (0,[.b x]))) fun p1=>
 dv (Nat.beq p1.1 0)<|
 gC p1.2 fun m9 Hq=>
 gB m9 fun x1=>
 gN Hq<|
 some (0,[.b x1]))) fun p=>
 dv (Nat.beq p.1 0)<|
 gC p.2 fun RH sH=>
 gB RH fun x2=>
 gN sH<|
 bC x2 (
 some (.agg (ek Client Seq Kind Path ([]:List UInt8) 0 0 0))) (
 bC (decide (Kind=3)) (
 some (.agg (ek Client Seq Kind Path Value Version 0 0))) (
 bC (decide (Kind=4)) (
 some (.agg (ek Client Seq Kind Path ([]:List UInt8) Version 0 0))) (
 bC (decide (Kind=6)) (
 some (.agg (ek Client Seq Kind ([]:List UInt8) ([]:List UInt8) 0 Session Span))) (
 bd (
 bC (decide (Kind=7)) (
 some (0,[.b (decide (Kind=7))])) (
 some (0,[.b (decide (Kind=8))]))) fun p3=>
 dv (Nat.beq p3.1 0)<|
 gC p3.2 fun X7 vB=>
 gB X7 fun x3=>
 gN vB<|
 bC x3 (
 some (.agg (ek Client Seq Kind ([]:List UInt8) ([]:List UInt8) 0 Session 0))) (
 bC (decide (Kind=9)) (
 some (.agg (ek Client Seq Kind ([]:List UInt8) ([]:List UInt8) 0 0 Span))) (
 some (.agg (ek Client Seq Kind ([]:List UInt8) ([]:List UInt8) 0 0 0)))))))))
noncomputable def uq:Nat→List MV→Option MV:=br 81 (wN lH) FV
theorem wO:ap Tryz.prog cx uq:=Hp EK [] [] 62 [] [34,36,49] [(1,[1])] [(14,[0,1,2,3,4,5,6,7,8,9,10,11]),(17,[0,1,2,3,4,5,6,7])] [] [(12,⟨[1,2,3,12],[],[],[(0,[(26,.sc (.k .b))])],[]⟩),(7,⟨[1,2,3,12],[],[],[(0,[(15,.sc (.k .b))])],[]⟩),(6,⟨[1,2,3,12],[],[],[(0,[(15,.sc (.k .b))])],[]⟩),(5,⟨[1,2,3,12],[],[],[(0,[(15,.sc (.k .b))])],[]⟩)] [] [] Tryz.func81 (by kernel_rfl) (jI (fun _=>by kernel_rfl))
noncomputable def wo (o:MV):Option MV:=
 gA o fun cs=>
 jv .i64 .i64 .i64 .i64 .i64 .i64 cs fun Client Seq Kind Path Value Version Session Span=>
 bd (
 bC (decide ((0:Int)≤Client)) (
 bC (decide (Client≤1000)) (
 bC (decide ((1:Int)≤Seq)) (
 some [.b (decide (Seq≤1000000000))]) (
 some [.b false])) (
 some [.b false])) (
 some [.b false])) fun vs=>
 gC vs fun m8 tF=>
 gB m8 fun who=>
 gN tF<|
 bd (
 bC who (
 bC (decide ((0:Int)≤Kind)) (
 bC (decide (Kind≤11)) (
 bC (decide ((Path.length:Int)≤100)) (
 bC (decide ((Value.length:Int)≤1000)) (
 bd (lH (.agg (ek Client Seq Kind Path Value Version Session Span))) fun rA=>
 gA rA fun iL=>
 jv .i64 .i64 .i64 .i64 .i64 .i64 iL fun fg vA FU kh gG cW C6 yQ=>
 some [.b ((decide (Client=fg))&&((decide (Seq=vA))&&((decide (Kind=FU))&&((decide (Path=kh))&&((decide (Value=gG))&&((decide (Version=cW))&&((decide (Session=C6))&&(decide (Span=yQ)))))))))]) (
 some [.b false])) (
 some [.b false])) (
 some [.b false])) (
 some [.b false])) (
 some [.b false])) fun mh=>
 gC mh fun m17 abE=>
 gB m17 fun x=>
 gN abE<|
 some (.b x)
noncomputable def FW:Nat→List MV→Option MV:=br 35 (wN wo) uq
theorem EL:ap Tryz.prog cx FW:=Hp wO [] [] 51 [] [] [] [(2,[0,1,2,3,4,5,6,7,8,9,10,11,12,13,14,15,16,17,18,19,20,21,22,23,24,25,26,27,28,29])] [(2,⟨[1,3],[],[],[(0,[(2,.sc (.k .b))])],[]⟩),(1,⟨[1],[],[],[(0,[(3,.sc (.k .b))])],[]⟩)] [] [] [] Tryz.func35 (by kernel_rfl) (jI (fun _=>by kernel_rfl))
noncomputable def mK (x:MV):Option MV:=
 gI .i64 x fun x1=>
 some (.b (!decide (x1=x1)))
noncomputable def yR:Nat→List MV→Option MV:=br 183 (wN mK) FW
theorem zY:ap Tryz.prog cx yR:=mY EL [] 6 [] [] [] Tryz.func183 (by kernel_rfl) (jI (fun _=>by kernel_rfl))
noncomputable def ki (x y:MV):Option MV:=
 gI .i64 x fun x1=>
 gI .i64 y fun y1=>
 bd (mK (.i .i64 x1)) fun rA=>
 gB rA fun x2=>
 bd (mK (.i .i64 y1)) fun aV=>
 gB aV fun x3=>
 bC x2 (
 bC x3 (
 some (.i .i64 0)) (
 some (.i .i64 (-1)))) (
 bC x3 (
 some (.i .i64 1)) (
 bC (decide (x1<y1)) (
 some (.i .i64 (-1))) (
 bC (decide (y1<x1)) (
 some (.i .i64 1)) (
 some (.i .i64 0)))))
noncomputable def vC:Nat→List MV→Option MV:=br 121 (fw ki) yR
theorem xN:ap Tryz.prog cx vC:=mY zY [] 20 [] [] [] Tryz.func121 (by kernel_rfl) (bx (fun _ _=>by kernel_rfl))
noncomputable def iS (x eh:MV):Option MV:=
 gA x fun cs=>
 fL .i64 .i64 .i64 .i64 cs fun Client Seq E Value Version Names=>
 gI .i64 eh fun yS=>
 bd (ki (.i .i64 Client) (.i .i64 yS)) fun rA=>
 gI .i64 rA fun x1=>
 some (.i .i64 x1)
noncomputable def lV:Nat→List MV→Option MV:=br 120 (fw iS) vC
theorem tG:ap Tryz.prog cx lV:=mY xN [] 9 [] [] [] Tryz.func120 (by kernel_rfl) (bx (fun _ _=>by kernel_rfl))
noncomputable def b9:Nat→List MV→Option MV:=lV
theorem eX (x0 x1:MV):b9 120 [x0,x1]=iS x0 x1:=by kernel_rfl
noncomputable def cm (x target cmp:MV):Option MV:=
 gL x fun x1=>
 gI .i64 target fun q8=>
 gR cmp fun Ji=>
 cD x1 fun len=>
 bd (Loop (fun jB=>
 J1 .i64 .i64 jB fun i j=>
 bC (decide (i<j)) (
 dv (decide ((0:Int)≤1))<|
 idx x1 (IntKind.wrap .i64 (Int.fdiv (IntKind.wrap .u64 (IntKind.wrap .i64 (i+j))) (2^min (Int.toNat 1) (IntKind.bits .u64)))) fun y=>
 gA y fun cs=>
 fL .i64 .i64 .i64 .i64 cs fun Client Seq E Value Version Names=>
 J5 Ji fun fn cap=>
 dv (!gv fn)<|
 bd (b9 fn ([.agg (jL Client Seq E Value Version Names),.i .i64 q8]++cap)) fun rA=>
 gI .i64 rA fun x2=>
 bd (
 bC (decide (x2<0)) (
 some (0,[.i .i64 (IntKind.wrap .i64 ((IntKind.wrap .i64 (Int.fdiv (IntKind.wrap .u64 (IntKind.wrap .i64 (i+j))) (2^min (Int.toNat 1) (IntKind.bits .u64))))+1)),.i .i64 j])) (
 some (0,[.i .i64 i,.i .i64 (IntKind.wrap .i64 (Int.fdiv (IntKind.wrap .u64 (IntKind.wrap .i64 (i+j))) (2^min (Int.toNat 1) (IntKind.bits .u64))))]))) fun p1=>
 dv (Nat.beq p1.1 0)<|
 J1 .i64 .i64 p1.2 fun i1 j1=>
 some (.inl [.i .i64 i1,.i .i64 j1])) (
 some (.inr (2,[.i .i64 i])))) [.i .i64 0,.i .i64 (len:Int)]) fun p=>
 dv (Nat.beq p.1 2)<|
 gC p.2 fun RH vB=>
 gI .i64 RH fun i2=>
 gN vB<|
 bd (
 bC (decide (i2<(len:Int))) (
 idx x1 i2 fun y1=>
 gA y1 fun iL=>
 fL .i64 .i64 .i64 .i64 iL fun fg vA E1 gG cW xO=>
 J5 Ji fun yg qA=>
 dv (!gv yg)<|
 bd (b9 yg ([.agg (jL fg vA E1 gG cW xO),.i .i64 q8]++qA)) fun aV=>
 gI .i64 aV fun x3=>
 some [.i .i64 i2,.b (decide (x3=0))]) (
 some [.i .i64 i2,.b false])) fun vs=>
 K9 .i64 vs fun x4 x5=>
 some (.cC [.i .i64 x4,.b x5])
noncomputable def eZ:Nat→List MV→Option MV:=br 119 (EF cm) lV
theorem jC:ap Tryz.prog cx eZ:=mY tG [] 49 [(8,⟨[0,1,2,8,9],[],[],[(0,[(6,.sc (.k (.i .i64))),(7,.sc (.k .b))])],[]⟩)] [(6,⟨[0,1,2,8,11],[],[],[(0,[(9,.sc (.k (.i .i64))),(10,.sc (.k (.i .i64)))])],[]⟩)] [(3,⟨[0,1,2,8],[],[(9,.sc (.k (.i .i64))),(10,.sc (.k (.i .i64)))],[(2,[(9,.sc (.k (.i .i64)))])],[]⟩)] Tryz.func119 (by kernel_rfl) (qZ (fun _ _ _=>by kernel_rfl))
noncomputable def ir (rA eh:MV):Option MV:=
 gA rA fun cs=>
 ox .i64 cs fun lW iT p0 lX Seen=>
 gI .i64 eh fun yS=>
 bd (cm (.list Seen) (.i .i64 yS) (.func 120 [])) fun aV=>
 gT aV fun vs=>
 K9 .i64 vs fun x x1=>
 some (.cC [.i .i64 x,.b x1])
noncomputable def sI:Nat→List MV→Option MV:=br 62 (fw ir) eZ
theorem vD:ap Tryz.prog cx sI:=mY jC [] 12 [] [] [] Tryz.func62 (by kernel_rfl) (bx (fun _ _=>by kernel_rfl))
noncomputable def p8 (rA eh:MV):Option MV:=
 gA rA fun cs=>
 ox .i64 cs fun lW iT p0 lX Seen=>
 gI .i64 eh fun yS=>
 bd (ir (.agg (lU lW iT p0 lX Seen)) (.i .i64 yS)) fun aV=>
 gT aV fun vs=>
 K9 .i64 vs fun x x1=>
 bC (!x1) (
 some (.cC [.agg (jL 0 0 0 ([]:List UInt8) 0 ([]:List MV)),.b false])) (
 idx Seen x fun y=>
 gA y fun iL=>
 fL .i64 .i64 .i64 .i64 iL fun Client Seq E Value Version Names=>
 some (.cC [.agg (jL Client Seq E Value Version Names),.b true]))
noncomputable def C7:Nat→List MV→Option MV:=br 36 (fw p8) sI
theorem C8:ap Tryz.prog cx C7:=mY vD [] 22 [] [] [] Tryz.func36 (by kernel_rfl) (bx (fun _ _=>by kernel_rfl))
noncomputable def kJ (rA o:MV):Option MV:=
 gA rA fun cs=>
 ox .i64 cs fun lW iT p0 lX Seen=>
 gA o fun iL=>
 jv .i64 .i64 .i64 .i64 .i64 .i64 iL fun Client Seq Kind Path Value Version Session Span=>
 bd (p8 (.agg (lU lW iT p0 lX Seen)) (.i .i64 Client)) fun aV=>
 gT aV fun vs=>
 gC vs fun UJ Jj=>
 gA UJ fun vX=>
 fL .i64 .i64 .i64 .i64 vX fun fg vA E gG cW Names=>
 gC Jj fun Bq iu=>
 gB Bq fun x=>
 gN iu<|
 bd (wo (.agg (ek Client Seq Kind Path Value Version Session Span))) fun cY=>
 gB cY fun x1=>
 bd (
 bC (!x1) (
 some (0,[.i .i64 0,.i .i64 0,.i .i64 0,.s ([]:List UInt8),.i .i64 0,.list ([]:List MV),.i .i64 Client,.i .i64 Seq,.i .i64 1,.s ([]:List UInt8),.i .i64 0,.list ([]:List MV)])) (
 bd (
 bC x (
 some [.b (decide (vA=Seq))]) (
 some [.b false])) fun mh=>
 gC mh fun On sJ=>
 gB On fun x2=>
 gN sJ<|
 bC x2 (
 some (1,[.i .i64 fg,.i .i64 vA,.i .i64 E,.s gG,.i .i64 cW,.list Names,.b true])) (
 bd (
 bC x (
 some [.b (decide (Seq<vA))]) (
 some [.b false])) fun rE=>
 gC rE fun RX vE=>
 gB RX fun x3=>
 gN vE<|
 bd (
 bC x3 (
 some (0,[.i .i64 0,.i .i64 0,.i .i64 0,.s ([]:List UInt8),.i .i64 0,.list ([]:List MV),.i .i64 Client,.i .i64 Seq,.i .i64 15,.s ([]:List UInt8),.i .i64 0,.list ([]:List MV)])) (
 bd (
 bC (!x) (
 cD Seen fun len=>
 some [.b (decide ((50:Int)≤(len:Int)))]) (
 some [.b false])) fun vs3=>
 gC vs3 fun Oo sK=>
 gB Oo fun x4=>
 gN sK<|
 bC x4 (
 some (0,[.i .i64 0,.i .i64 0,.i .i64 0,.s ([]:List UInt8),.i .i64 0,.list ([]:List MV),.i .i64 Client,.i .i64 Seq,.i .i64 9,.s ([]:List UInt8),.i .i64 0,.list ([]:List MV)])) (
 some (1,[.i .i64 Client,.i .i64 Seq,.i .i64 0,.s ([]:List UInt8),.i .i64 0,.list ([]:List MV),.b false])))) fun p1=>
 bC (Nat.beq p1.1 0) (
 gC p1.2 fun m24 Jk=>
 gI .i64 m24 fun x5=>
 gC Jk fun U0 C9=>
 gI .i64 U0 fun x6=>
 gC C9 fun m26 Jl=>
 gI .i64 m26 fun x7=>
 gC Jl fun m27 abG=>
 gS m27 fun x8=>
 gC abG fun m28 abH=>
 gI .i64 m28 fun x9=>
 gC abH fun m29 abI=>
 gL m29 fun AX=>
 fL .i64 .i64 .i64 .i64 abI fun Bo C0 C1 BQ Bp C2=>
 some (0,[.i .i64 x5,.i .i64 x6,.i .i64 x7,.s x8,.i .i64 x9,.list AX,.i .i64 Bo,.i .i64 C0,.i .i64 C1,.s BQ,.i .i64 Bp,.list C2])) (
 dv (Nat.beq p1.1 1)<|
 gC p1.2 fun m36 RY=>
 gI .i64 m36 fun C3=>
 gC RY fun m37 RZ=>
 gI .i64 m37 fun C4=>
 gC RZ fun m38 R0=>
 gI .i64 m38 fun C5=>
 gC R0 fun m39 abJ=>
 gS m39 fun J3=>
 gC abJ fun m40 R2=>
 gI .i64 m40 fun ML=>
 gC R2 fun m41 Jm=>
 gL m41 fun Tf=>
 gC Jm fun m42 R3=>
 gB m42 fun U1=>
 gN R3<|
 some (1,[.i .i64 C3,.i .i64 C4,.i .i64 C5,.s J3,.i .i64 ML,.list Tf,.b U1]))))) fun p=>
 bC (Nat.beq p.1 0) (
 gC p.2 fun m43 Jn=>
 gI .i64 m43 fun Yi=>
 gC Jn fun m44 abM=>
 gI .i64 m44 fun x25=>
 gC abM fun m45 abN=>
 gI .i64 m45 fun x26=>
 gC abN fun m46 abO=>
 gS m46 fun x27=>
 gC abO fun m47 R4=>
 gI .i64 m47 fun x28=>
 gC R4 fun m48 Jo=>
 gL m48 fun x29=>
 fL .i64 .i64 .i64 .i64 Jo fun x30 x31 x32 x33 x34 x35=>
 some (.cC [.agg (jL x30 x31 x32 x33 x34 x35),.b true])) (
 dv (Nat.beq p.1 1)<|
 gC p.2 fun m55 abV=>
 gI .i64 m55 fun x36=>
 gC abV fun m56 abX=>
 gI .i64 m56 fun x37=>
 gC abX fun m57 abZ=>
 gI .i64 m57 fun x38=>
 gC abZ fun m58 ab1=>
 gS m58 fun x39=>
 gC ab1 fun m59 ab3=>
 gI .i64 m59 fun x40=>
 gC ab3 fun m60 ab5=>
 gL m60 fun x41=>
 gC ab5 fun m61 ab6=>
 gB m61 fun x42=>
 gN ab6<|
 some (.cC [.agg (jL x36 x37 x38 x39 x40 x41),.b x42]))
noncomputable def sL:Nat→List MV→Option MV:=br 58 (fw kJ) C7
theorem vF:ap Tryz.prog cx sL:=mY C8 [] 58 [(10,⟨[2,4,6,8],[],[],[(0,[(47,.sc (.k .b))])],[]⟩),(8,⟨[2,3,4,6,7,8],[],[],[(0,[(37,.sc (.k .b))])],[]⟩),(6,⟨[2,3,4,6,7,8],[],[],[(0,[(27,.sc (.k .b))])],[]⟩)] [(9,⟨[2,8],[],[],[(0,[(4,.box [.k (.i .i64),.k (.i .i64),.k (.i .i64),.k .s,.k (.i .i64),.k .l]),(6,.box [.k (.i .i64),.k (.i .i64),.k (.i .i64),.k .s,.k (.i .i64),.k .l])]),(1,[(4,.box [.k (.i .i64),.k (.i .i64),.k (.i .i64),.k .s,.k (.i .i64),.k .l]),(5,.sc (.k .b))])],[]⟩),(5,⟨[2,3,7,8],[],[],[(0,[(4,.box [.k (.i .i64),.k (.i .i64),.k (.i .i64),.k .s,.k (.i .i64),.k .l]),(6,.box [.k (.i .i64),.k (.i .i64),.k (.i .i64),.k .s,.k (.i .i64),.k .l])]),(1,[(4,.box [.k (.i .i64),.k (.i .i64),.k (.i .i64),.k .s,.k (.i .i64),.k .l]),(5,.sc (.k .b))])],[]⟩)] [] Tryz.func58 (by kernel_rfl) (bx (fun _ _=>by kernel_rfl))
noncomputable def iU (w:List MV):Option MV:=
 ax .i64 .i64 .i64 .i64 .i64 .i64 .i64 .i64 .i64 .i64 .i64 w fun ch bR dr cA fS cn ln e8 dI c9 bL bu eT cj kK xE dg bS dh lA=>
 some (.dG (.cC []) (al ch bR dr cA fS cn ln e8 dI c9 bL bu eT cj kK xE dg bS dh lA))
noncomputable def p9:Nat→List MV→Option MV:=br 105 (Om iU) sL
theorem tH:ap Tryz.prog cx p9:=J0 vF 0 iH [] [(0,1000000)] 2 [] [] [] [] [] [] [] [] Tryz.func105 (by kernel_rfl) (by kernel_rfl) (pZ fun _=>by kernel_rfl)
noncomputable def jM (x id:MV):Option MV:=
 gA x fun cs=>
 EI .i64 .i64 .i64 cs fun Id Span jJ=>
 gI .i64 id fun J4=>
 bd (ki (.i .i64 Id) (.i .i64 J4)) fun rA=>
 gI .i64 rA fun x1=>
 some (.i .i64 x1)
noncomputable def mL:Nat→List MV→Option MV:=br 144 (fw jM) p9
theorem uI:ap Tryz.prog cx mL:=mY tH [] 9 [] [] [] Tryz.func144 (by kernel_rfl) (bx (fun _ _=>by kernel_rfl))
noncomputable def bX:Nat→List MV→Option MV:=mL
theorem eQ (x0 x1:MV):bX 144 [x0,x1]=jM x0 x1:=by kernel_rfl
noncomputable def ca (x target cmp:MV):Option MV:=
 gL x fun x1=>
 gI .i64 target fun q8=>
 gR cmp fun Ji=>
 cD x1 fun len=>
 bd (Loop (fun jB=>
 J1 .i64 .i64 jB fun i j=>
 bC (decide (i<j)) (
 dv (decide ((0:Int)≤1))<|
 idx x1 (IntKind.wrap .i64 (Int.fdiv (IntKind.wrap .u64 (IntKind.wrap .i64 (i+j))) (2^min (Int.toNat 1) (IntKind.bits .u64)))) fun y=>
 gA y fun cs=>
 EI .i64 .i64 .i64 cs fun Id Span jJ=>
 J5 Ji fun fn cap=>
 dv (!gv fn)<|
 bd (bX fn ([.agg [.i .i64 Id,.i .i64 Span,.i .i64 jJ],.i .i64 q8]++cap)) fun rA=>
 gI .i64 rA fun x2=>
 bd (
 bC (decide (x2<0)) (
 some (0,[.i .i64 (IntKind.wrap .i64 ((IntKind.wrap .i64 (Int.fdiv (IntKind.wrap .u64 (IntKind.wrap .i64 (i+j))) (2^min (Int.toNat 1) (IntKind.bits .u64))))+1)),.i .i64 j])) (
 some (0,[.i .i64 i,.i .i64 (IntKind.wrap .i64 (Int.fdiv (IntKind.wrap .u64 (IntKind.wrap .i64 (i+j))) (2^min (Int.toNat 1) (IntKind.bits .u64))))]))) fun p1=>
 dv (Nat.beq p1.1 0)<|
 J1 .i64 .i64 p1.2 fun i1 j1=>
 some (.inl [.i .i64 i1,.i .i64 j1])) (
 some (.inr (2,[.i .i64 i])))) [.i .i64 0,.i .i64 (len:Int)]) fun p=>
 dv (Nat.beq p.1 2)<|
 gC p.2 fun m7 tF=>
 gI .i64 m7 fun i2=>
 gN tF<|
 bd (
 bC (decide (i2<(len:Int))) (
 idx x1 i2 fun y1=>
 gA y1 fun iL=>
 EI .i64 .i64 .i64 iL fun Id1 yQ Hr=>
 J5 Ji fun yg qA=>
 dv (!gv yg)<|
 bd (bX yg ([.agg [.i .i64 Id1,.i .i64 yQ,.i .i64 Hr],.i .i64 q8]++qA)) fun aV=>
 gI .i64 aV fun x3=>
 some [.i .i64 i2,.b (decide (x3=0))]) (
 some [.i .i64 i2,.b false])) fun vs=>
 K9 .i64 vs fun x4 x5=>
 some (.cC [.i .i64 x4,.b x5])
noncomputable def eK:Nat→List MV→Option MV:=br 143 (EF ca) mL
theorem iV:ap Tryz.prog cx eK:=mY uI [] 49 [(8,⟨[0,1,2,8,9],[],[],[(0,[(6,.sc (.k (.i .i64))),(7,.sc (.k .b))])],[]⟩)] [(6,⟨[0,1,2,8,11],[],[],[(0,[(9,.sc (.k (.i .i64))),(10,.sc (.k (.i .i64)))])],[]⟩)] [(3,⟨[0,1,2,8],[],[(9,.sc (.k (.i .i64))),(10,.sc (.k (.i .i64)))],[(2,[(9,.sc (.k (.i .i64)))])],[]⟩)] Tryz.func143 (by kernel_rfl) (qZ (fun _ _ _=>by kernel_rfl))
noncomputable def eY (b id:MV):Option MV:=
 gA b fun cs=>
 La .i64 cs fun fQ L=>
 gI .i64 id fun J4=>
 bd (ca (.list L) (.i .i64 J4) (.func 144 [])) fun rA=>
 gT rA fun vs=>
 K9 .i64 vs fun x x1=>
 some (.cC [.i .i64 x,.b x1])
noncomputable def ur:Nat→List MV→Option MV:=br 82 (fw eY) eK
theorem wP:ap Tryz.prog cx ur:=mY iV [] 12 [] [] [] Tryz.func82 (by kernel_rfl) (bx (fun _ _=>by kernel_rfl))
noncomputable def wu (b id:MV):Option MV:=
 gA b fun cs=>
 La .i64 cs fun fQ L=>
 gI .i64 id fun J4=>
 bd (eY (.agg [.i .i64 fQ,.list L]) (.i .i64 J4)) fun rA=>
 gT rA fun vs=>
 K9 .i64 vs fun x x1=>
 some (.b x1)
noncomputable def FX:Nat→List MV→Option MV:=br 37 (fw wu) ur
theorem EM:ap Tryz.prog cx FX:=mY wP [] 14 [] [] [] Tryz.func37 (by kernel_rfl) (bx (fun _ _=>by kernel_rfl))
noncomputable def fM (sA cJ:MV):Option MV:=
 gS sA fun qa=>
 gS cJ fun jo=>
 bd (
 bC (decide ((jo.length:Int)≤(qa.length:Int))) (
 dv (decide ((0:Int)≤0∧(0:Int)≤(jo.length:Int)∧(jo.length:Int)≤(qa.length:Int)))<|
 some [.b (decide ((List.drop (Int.toNat 0) (List.take (Int.toNat (jo.length:Int)) qa))=jo))]) (
 some [.b false])) fun vs=>
 gC vs fun m jB=>
 gB m fun x=>
 gN jB<|
 some (.b x)
noncomputable def nj:Nat→List MV→Option MV:=br 251 (fw fM) FX
theorem qB:ap Tryz.prog cx nj:=mY EM [] 18 [(1,⟨[0,1],[],[],[(0,[(4,.sc (.k .b))])],[]⟩)] [] [] Tryz.func251 (by kernel_rfl) (bx (fun _ _=>by kernel_rfl))
noncomputable def fN (sA cJ:MV):Option MV:=
 gS sA fun qa=>
 gS cJ fun jo=>
 bd (fM (.s qa) (.s jo)) fun rA=>
 gB rA fun x=>
 bC (!x) (
 some (.cC [.s qa,.b false])) (
 dv (decide ((0:Int)≤(jo.length:Int)∧(jo.length:Int)≤(qa.length:Int)∧(qa.length:Int)≤(qa.length:Int)))<|
 some (.cC [.s (List.drop (Int.toNat (jo.length:Int)) (List.take (Int.toNat (qa.length:Int)) qa)),.b true]))
noncomputable def nk:Nat→List MV→Option MV:=br 232 (fw fN) nj
theorem qC:ap Tryz.prog cx nk:=mY qB [] 15 [] [] [] Tryz.func232 (by kernel_rfl) (bx (fun _ _=>by kernel_rfl))
noncomputable def jN (sA cJ:MV):Option MV:=
 gS sA fun qa=>
 gS cJ fun jo=>
 bd (fN (.s qa) (.s jo)) fun rA=>
 gT rA fun vs=>
 gC vs fun m jB=>
 gS m fun x=>
 gC jB fun m1 gE=>
 gB m1 fun x1=>
 gN gE<|
 some (.cC [.s x,.b x1])
noncomputable def q9:Nat→List MV→Option MV:=br 193 (fw jN) nk
theorem uJ:ap Tryz.prog cx q9:=mY qC [] 11 [] [] [] Tryz.func193 (by kernel_rfl) (bx (fun _ _=>by kernel_rfl))
noncomputable def nP (c:MV):Option MV:=
 gI .i32 c fun c1=>
 bd (pN [.s ([97,98,99,100,101,102,103,104,105,106,107,108,109,110,111,112,113,114,115,116,117,118,119,120,121,122,48,49,50,51,52,53,54,55,56,57,45,95]:List UInt8),.i .i32 c1]) fun rA=>
 gB rA fun x=>
 some (.b (!x))
noncomputable def rL:Nat→List MV→Option MV:=br 237 (wN nP) q9
theorem yT:ap Tryz.prog cx rL:=mY uJ [] 6 [] [] [] Tryz.func237 (by kernel_rfl) (jI (fun _=>by kernel_rfl))
noncomputable def gp:Nat→List MV→Option MV:=rL
theorem oz (x0:MV):gp 237 [x0]=nP x0:=by kernel_rfl
noncomputable def lI (sA f AW:MV):Option MV:=
 gS sA fun qa=>
 gR f fun f1=>
 gB AW fun Yj=>
 bd (Loop (fun jB=>
 gC jB fun m gE=>
 gL m fun es=>
 gN gE<|
 bC (Ep es) (
 J5 f1 fun fn cap=>
 dv (!gv fn)<|
 bd (gp fn ([.i .i32 (u6 es)]++cap)) fun rA=>
 gB rA fun x=>
 bC (decide (x=Yj)) (
 some (.inr (1,[.i .i64 (oU es)]))) (
 some (.inl [.list (xx es)]))) (
 some (.inr (2,[])))) [.list ([.s qa,.i .i64 0]:List MV)]) fun p=>
 bC (Nat.beq p.1 2) (
 gN p.2<|
 some (.i .i64 (-1))) (
 dv (Nat.beq p.1 1)<|
 gC p.2 fun m1 oJ=>
 gI .i64 m1 fun x1=>
 gN oJ<|
 some (.i .i64 x1))
noncomputable def uu:Nat→List MV→Option MV:=br 275 (EF lI) rL
theorem wQ:ap Tryz.prog cx uu:=mY yT [] 21 [] [] [(2,⟨[1,2],[],[(10,.mp ⟨true,[],true⟩)],[(1,[(6,.sc (.k (.i .i64)))]),(2,[])],[]⟩)] Tryz.func275 (by kernel_rfl) (qZ (fun _ _ _=>by kernel_rfl))
noncomputable def jO (sA f:MV):Option MV:=
 gS sA fun qa=>
 gR f fun f1=>
 bd (lI (.s qa) f1 (.b true)) fun rA=>
 gI .i64 rA fun x=>
 some (.i .i64 x)
noncomputable def ra:Nat→List MV→Option MV:=br 262 (fw jO) uu
theorem uK:ap Tryz.prog cx ra:=mY wQ [] 8 [] [] [] Tryz.func262 (by kernel_rfl) (bx (fun _ _=>by kernel_rfl))
noncomputable def gq (sA f:MV):Option MV:=
 gS sA fun qa=>
 gR f fun f1=>
 bd (jO (.s qa) f1) fun rA=>
 gI .i64 rA fun x=>
 some (.b (decide ((0:Int)≤x)))
noncomputable def n6:Nat→List MV→Option MV:=br 236 (fw gq) ra
theorem rM:ap Tryz.prog cx n6:=mY uK [] 9 [] [] [] Tryz.func236 (by kernel_rfl) (bx (fun _ _=>by kernel_rfl))
noncomputable def rc (sA:MV):Option MV:=
 gS sA fun qa=>
 bd (
 bC (!decide (qa=([]:List UInt8))) (
 bC (decide ((qa.length:Int)≤30)) (
 bd (CU [.s qa,.s ([97,98,99,100,101,102,103,104,105,106,107,108,109,110,111,112,113,114,115,116,117,118,119,120,121,122,48,49,50,51,52,53,54,55,56,57,45,95]:List UInt8)]) fun rA=>
 gS rA fun x=>
 bC (decide (x=([]:List UInt8))) (
 bd (gq (.s qa) (.func 237 [])) fun aV=>
 gB aV fun x1=>
 some [.b (!x1)]) (
 some [.b false])) (
 some [.b false])) (
 some [.b false])) fun vs=>
 gC vs fun m jB=>
 gB m fun x2=>
 gN jB<|
 some (.b x2)
noncomputable def A3:Nat→List MV→Option MV:=br 197 (wN rc) n6
theorem Br:ap Tryz.prog cx A3:=mY rM [] 20 [(1,⟨[0],[],[],[(0,[(2,.sc (.k .b))])],[]⟩)] [] [] Tryz.func197 (by kernel_rfl) (jI (fun _=>by kernel_rfl))
noncomputable def pf (sA:MV):Option MV:=
 gS sA fun qa=>
 bd (rc (.s qa)) fun rA=>
 gB rA fun x=>
 some (.b (!x))
noncomputable def tI:Nat→List MV→Option MV:=br 196 (wN pf) A3
theorem zZ:ap Tryz.prog cx tI:=mY Br [] 6 [] [] [] Tryz.func196 (by kernel_rfl) (jI (fun _=>by kernel_rfl))
noncomputable def et:Nat→List MV→Option MV:=tI
theorem lY (x0:MV):et 196 [x0]=pf x0:=by kernel_rfl
noncomputable def fh (sA f:MV):Option MV:=
 gL sA fun qa=>
 gR f fun f1=>
 cD qa fun len=>
 bd (Loop (fun jB=>
 gC jB fun m gE=>
 gI .i64 m fun x=>
 gN gE<|
 bC (decide (x<(len:Int))) (
 idx qa x fun y=>
 gS y fun x1=>
 J5 f1 fun fn cap=>
 dv (!gv fn)<|
 bd (et fn ([.s x1]++cap)) fun rA=>
 gB rA fun x2=>
 bC x2 (
 some (.inr (1,[.i .i64 x]))) (
 some (.inl [.i .i64 (IntKind.wrap .i64 (x+1))]))) (
 some (.inr (2,[])))) [.i .i64 0]) fun p=>
 bC (Nat.beq p.1 2) (
 gN p.2<|
 some (.i .i64 (-1))) (
 dv (Nat.beq p.1 1)<|
 gC p.2 fun m1 oJ=>
 gI .i64 m1 fun x3=>
 gN oJ<|
 some (.i .i64 x3))
noncomputable def mM:Nat→List MV→Option MV:=br 234 (fw fh) tI
theorem qc:ap Tryz.prog cx mM:=mY zZ [] 19 [] [] [(2,⟨[0,1,7],[],[(8,.sc (.k (.i .i64)))],[(1,[(4,.sc (.k (.i .i64)))]),(2,[])],[]⟩)] Tryz.func234 (by kernel_rfl) (bx (fun _ _=>by kernel_rfl))
noncomputable def dV (sA f:MV):Option MV:=
 gL sA fun qa=>
 gR f fun f1=>
 bd (fh (.list qa) f1) fun rA=>
 gI .i64 rA fun x=>
 some (.b (decide ((0:Int)≤x)))
noncomputable def kS:Nat→List MV→Option MV:=br 195 (fw dV) mM
theorem n7:ap Tryz.prog cx kS:=mY qc [] 9 [] [] [] Tryz.func195 (by kernel_rfl) (bx (fun _ _=>by kernel_rfl))
noncomputable def iW (p:MV):Option MV:=
 gS p fun p1=>
 bd (jN (.s p1) (.s ([47]:List UInt8))) fun rA=>
 gT rA fun vs=>
 gC vs fun m jB=>
 gS m fun x=>
 gC jB fun m1 gE=>
 gB m1 fun x1=>
 gN gE<|
 bd (
 bC (!x1) (
 some [.b true]) (
 some [.b (decide ((100:Int)<(p1.length:Int)))])) fun mh=>
 gC mh fun m2 oJ=>
 gB m2 fun x2=>
 gN oJ<|
 bC x2 (
 some (.cC [.list ([]:List MV),.b false])) (
 bC (decide (x=([]:List UInt8))) (
 some (.cC [.list ([]:List MV),.b true])) (
 bd (vv [.s x,.s ([47]:List UInt8)]) fun aV=>
 gF aV fun xs=>
 bd (
 cD xs fun len=>
 bC (decide ((len:Int)≤8)) (
 bd (dV (.list xs) (.func 196 [])) fun cY=>
 gB cY fun x3=>
 some [.list xs,.b (!x3),.list xs]) (
 some [.list xs,.b false,.list xs])) fun rE=>
 gC rE fun m3 rN=>
 gL m3 fun Hs=>
 gC rN fun m4 oK=>
 gB m4 fun x4=>
 gC oK fun m5 tJ=>
 gL m5 fun lA=>
 gN tJ<|
 some (.cC [.list lA,.b x4])))
noncomputable def Da:Nat→List MV→Option MV:=br 137 (wN iW) kS
theorem Db:ap Tryz.prog cx Da:=mY n7 [] 34 [(7,⟨[],[],[],[(0,[(2,.sc (.own 24 9 true)),(3,.sc (.k .b)),(6,.sc (.own 24 9 true))])],[24]⟩),(2,⟨[0,4,5],[],[],[(0,[(12,.sc (.k .b))])],[24]⟩)] [] [] Tryz.func137 (by kernel_rfl) (jI (fun _=>by kernel_rfl))
noncomputable def jq (x:MV):Option MV:=
 gS x fun x1=>
 some (.b (!decide (x1=x1)))
noncomputable def uv:Nat→List MV→Option MV:=br 264 (wN jq) Da
theorem wR:ap Tryz.prog cx uv:=mY Db [] 6 [] [] [] Tryz.func264 (by kernel_rfl) (jI (fun _=>by kernel_rfl))
noncomputable def jP (x y:MV):Option MV:=
 gS x fun x1=>
 gS y fun y1=>
 bd (jq (.s x1)) fun rA=>
 gB rA fun x2=>
 bd (jq (.s y1)) fun aV=>
 gB aV fun x3=>
 bC x2 (
 bC x3 (
 some (.i .i64 0)) (
 some (.i .i64 (-1)))) (
 bC x3 (
 some (.i .i64 1)) (
 bC (Op.bytesLess x1 y1) (
 some (.i .i64 (-1))) (
 bC (!(Op.bytesLess x1 y1||decide (x1=y1))) (
 some (.i .i64 1)) (
 some (.i .i64 0)))))
noncomputable def re:Nat→List MV→Option MV:=br 240 (fw jP) uv
theorem uL:ap Tryz.prog cx re:=mY wR [] 20 [] [] [] Tryz.func240 (by kernel_rfl) (bx (fun _ _=>by kernel_rfl))
noncomputable def gu (s1 s2:MV):Option MV:=
 gL s1 fun qd=>
 gL s2 fun uM=>
 cD qd fun len=>
 bd (Loop (fun jB=>
 gC jB fun m gE=>
 gI .i64 m fun x=>
 gN gE<|
 bC (decide (x<(len:Int))) (
 idx qd x fun y=>
 gS y fun x1=>
 cD uM fun mN=>
 bC (decide ((mN:Int)≤x)) (
 some (.inr (1,[.i .i64 1]))) (
 idx uM x fun y1=>
 gS y1 fun x2=>
 bd (jP (.s x1) (.s x2)) fun rA=>
 gI .i64 rA fun x3=>
 bC (!decide (x3=0)) (
 some (.inr (1,[.i .i64 x3]))) (
 some (.inl [.i .i64 (IntKind.wrap .i64 (x+1))])))) (
 some (.inr (2,[])))) [.i .i64 0]) fun p=>
 bC (Nat.beq p.1 2) (
 gN p.2<|
 cD qd fun nD=>
 cD uM fun z1=>
 bC (decide ((nD:Int)<(z1:Int))) (
 some (.i .i64 (-1))) (
 some (.i .i64 0))) (
 dv (Nat.beq p.1 1)<|
 gC p.2 fun m1 oJ=>
 gI .i64 m1 fun x4=>
 gN oJ<|
 some (.i .i64 x4))
noncomputable def n8:Nat→List MV→Option MV:=br 202 (fw gu) re
theorem rO:ap Tryz.prog cx n8:=mY uL [] 36 [] [] [(2,⟨[0,1,9,10],[],[(11,.sc (.k (.i .i64)))],[(1,[(4,.sc (.k (.i .i64)))]),(2,[])],[]⟩)] Tryz.func202 (by kernel_rfl) (bx (fun _ _=>by kernel_rfl))
noncomputable def tK (p q:MV):Option MV:=
 gS p fun p1=>
 gS q fun q1=>
 bd (iW (.s p1)) fun rA=>
 gT rA fun vs=>
 gC vs fun m jB=>
 gL m fun x=>
 gC jB fun m1 gE=>
 gB m1 fun x1=>
 gN gE<|
 bd (iW (.s q1)) fun aV=>
 gT aV fun mh=>
 gC mh fun m2 oJ=>
 gL m2 fun x2=>
 gC oJ fun m3 rN=>
 gB m3 fun x3=>
 gN rN<|
 bd (
 bC x1 (
 bC x3 (
 bd (gu (.list x) (.list x2)) fun cY=>
 gI .i64 cY fun x4=>
 some [.b (decide (x4<0))]) (
 some [.b false])) (
 some [.b false])) fun rE=>
 gC rE fun m4 oK=>
 gB m4 fun x5=>
 gN oK<|
 some (.b x5)
noncomputable def Dc:Nat→List MV→Option MV:=br 146 (fw tK) n8
theorem Dd:ap Tryz.prog cx Dc:=mY rO [] 29 [(3,⟨[5,6,7,8],[],[],[(0,[(4,.sc (.k .b))])],[]⟩)] [] [] Tryz.func146 (by kernel_rfl) (bx (fun _ _=>by kernel_rfl))
noncomputable def iX (n p:MV):Option MV:=
 gA n fun cs=>
 ni .i64 .i64 cs fun Path Value Version cS=>
 gS p fun p1=>
 bC (decide (Path=p1)) (
 some (.i .i64 0)) (
 bd (tK (.s Path) (.s p1)) fun rA=>
 gB rA fun x=>
 bC x (
 some (.i .i64 (-1))) (
 some (.i .i64 1)))
noncomputable def lZ:Nat→List MV→Option MV:=br 245 (fw iX) Dc
theorem tL:ap Tryz.prog cx lZ:=mY Dd [] 15 [] [] [] Tryz.func245 (by kernel_rfl) (bx (fun _ _=>by kernel_rfl))
noncomputable def bY:Nat→List MV→Option MV:=lZ
theorem eL (x0 x1:MV):bY 245 [x0,x1]=iX x0 x1:=by kernel_rfl
noncomputable def cb (x target cmp:MV):Option MV:=
 gL x fun x1=>
 gS target fun q8=>
 gR cmp fun Ji=>
 cD x1 fun len=>
 bd (Loop (fun jB=>
 J1 .i64 .i64 jB fun i j=>
 bC (decide (i<j)) (
 dv (decide ((0:Int)≤1))<|
 idx x1 (IntKind.wrap .i64 (Int.fdiv (IntKind.wrap .u64 (IntKind.wrap .i64 (i+j))) (2^min (Int.toNat 1) (IntKind.bits .u64)))) fun y=>
 gA y fun cs=>
 ni .i64 .i64 cs fun Path Value Version cS=>
 J5 Ji fun fn cap=>
 dv (!gv fn)<|
 bd (bY fn ([.agg (oY Path Value Version cS),.s q8]++cap)) fun rA=>
 gI .i64 rA fun x2=>
 bd (
 bC (decide (x2<0)) (
 some (0,[.i .i64 (IntKind.wrap .i64 ((IntKind.wrap .i64 (Int.fdiv (IntKind.wrap .u64 (IntKind.wrap .i64 (i+j))) (2^min (Int.toNat 1) (IntKind.bits .u64))))+1)),.i .i64 j])) (
 some (0,[.i .i64 i,.i .i64 (IntKind.wrap .i64 (Int.fdiv (IntKind.wrap .u64 (IntKind.wrap .i64 (i+j))) (2^min (Int.toNat 1) (IntKind.bits .u64))))]))) fun p1=>
 dv (Nat.beq p1.1 0)<|
 J1 .i64 .i64 p1.2 fun i1 j1=>
 some (.inl [.i .i64 i1,.i .i64 j1])) (
 some (.inr (2,[.i .i64 i])))) [.i .i64 0,.i .i64 (len:Int)]) fun p=>
 dv (Nat.beq p.1 2)<|
 gC p.2 fun m8 Hq=>
 gI .i64 m8 fun i2=>
 gN Hq<|
 bd (
 bC (decide (i2<(len:Int))) (
 idx x1 i2 fun y1=>
 gA y1 fun iL=>
 ni .i64 .i64 iL fun kh gG cW xP=>
 J5 Ji fun yg qA=>
 dv (!gv yg)<|
 bd (bY yg ([.agg (oY kh gG cW xP),.s q8]++qA)) fun aV=>
 gI .i64 aV fun x3=>
 some [.i .i64 i2,.b (decide (x3=0))]) (
 some [.i .i64 i2,.b false])) fun vs=>
 K9 .i64 vs fun x4 x5=>
 some (.cC [.i .i64 x4,.b x5])
noncomputable def eM:Nat→List MV→Option MV:=br 244 (EF cb) lZ
theorem iY:ap Tryz.prog cx eM:=mY tL [] 49 [(8,⟨[0,1,2,8,9],[],[],[(0,[(6,.sc (.k (.i .i64))),(7,.sc (.k .b))])],[]⟩)] [(6,⟨[0,1,2,8,11],[],[],[(0,[(9,.sc (.k (.i .i64))),(10,.sc (.k (.i .i64)))])],[]⟩)] [(3,⟨[0,1,2,8],[],[(9,.sc (.k (.i .i64))),(10,.sc (.k (.i .i64)))],[(2,[(9,.sc (.k (.i .i64)))])],[]⟩)] Tryz.func244 (by kernel_rfl) (qZ (fun _ _ _=>by kernel_rfl))
noncomputable def iv (sA p:MV):Option MV:=
 gA sA fun cs=>
 gC cs fun m jB=>
 gL m fun L=>
 gN jB<|
 gS p fun p1=>
 bd (cb (.list L) (.s p1) (.func 245 [])) fun rA=>
 gT rA fun vs=>
 K9 .i64 vs fun x x1=>
 some (.cC [.i .i64 x,.b x1])
noncomputable def sM:Nat→List MV→Option MV:=br 216 (fw iv) eM
theorem vG:ap Tryz.prog cx sM:=mY iY [] 12 [] [] [] Tryz.func216 (by kernel_rfl) (bx (fun _ _=>by kernel_rfl))
noncomputable def kj (p:MV):Option MV:=
 gS p fun p1=>
 bd (iW (.s p1)) fun rA=>
 gT rA fun vs=>
 gC vs fun m jB=>
 gL m fun x=>
 gC jB fun m1 gE=>
 gB m1 fun x1=>
 gN gE<|
 some (.b x1)
noncomputable def De:Nat→List MV→Option MV:=br 73 (wN kj) sM
theorem Df:ap Tryz.prog cx De:=mY vG [] 11 [] [] [] Tryz.func73 (by kernel_rfl) (jI (fun _=>by kernel_rfl))
noncomputable def dC (sA c:MV):Option MV:=
 gS sA fun qa=>
 gI .u8 c fun c1=>
 bd (Loop (fun jB=>
 gC jB fun m gE=>
 gI .i64 m fun i=>
 gN gE<|
 bC (decide ((0:Int)≤i)) (
 dv (decide ((0:Int)≤i∧i<(qa.length:Int)))<|
 bC (decide (((qa.getD (Int.toNat i) 0).toNat:Int)=c1)) (
 some (.inr (1,[.i .i64 i]))) (
 some (.inl [.i .i64 (IntKind.wrap .i64 (i-1))]))) (
 some (.inr (2,[])))) [.i .i64 (IntKind.wrap .i64 ((qa.length:Int)-1))]) fun p=>
 bC (Nat.beq p.1 2) (
 gN p.2<|
 some (.i .i64 (-1))) (
 dv (Nat.beq p.1 1)<|
 gC p.2 fun m1 oJ=>
 gI .i64 m1 fun x=>
 gN oJ<|
 some (.i .i64 x))
noncomputable def jQ:Nat→List MV→Option MV:=br 198 (fw dC) De
theorem nd:ap Tryz.prog cx jQ:=mY Df [] 19 [] [] [(2,⟨[0,1],[],[(5,.sc (.k (.i .i64)))],[(1,[(4,.sc (.k (.i .i64)))]),(2,[])],[]⟩)] Tryz.func198 (by kernel_rfl) (bx (fun _ _=>by kernel_rfl))
noncomputable def eu (sep:MV):Option MV:=
 gS sep fun U2=>
 bd (Loop (fun jB=>
 J1 .u32 .i64 jB fun hash i=>
 bC (decide ((0:Int)≤i)) (
 dv (decide ((0:Int)≤i∧i<(U2.length:Int)))<|
 some (.inl [.i .u32 (IntKind.wrap .u32 ((IntKind.wrap .u32 (hash *16777619))+(IntKind.wrap .u32 ((U2.getD (Int.toNat i) 0).toNat:Int)))),.i .i64 (IntKind.wrap .i64 (i-1))])) (
 some (.inr (2,[.i .u32 hash])))) [.i .u32 0,.i .i64 (IntKind.wrap .i64 ((U2.length:Int)-1))]) fun p=>
 dv (Nat.beq p.1 2)<|
 gC p.2 fun m2 rN=>
 gI .u32 m2 fun ab8=>
 gN rN<|
 bd (Loop (fun oK=>
 EI .u32 .u32 .i64 oK fun pow sq i1=>
 bC (decide ((0:Int)<i1)) (
 none) (
 some (.inr (4,[.i .u32 pow])))) [.i .u32 1,.i .u32 16777619,.i .i64 (U2.length:Int)]) fun p1=>
 dv (Nat.beq p1.1 4)<|
 gC p1.2 fun m6 tF=>
 gI .u32 m6 fun afu=>
 gN tF<|
 some (.cC [.i .u32 ab8,.i .u32 afu])
noncomputable def lp:Nat→List MV→Option MV:=br 239 (wN eu) jQ
theorem oL:ap Tryz.prog cx lp:=mY nd [] 40 [] [(11,⟨[4,7,8],[],[],[(0,[(6,.sc (.k (.i .u32)))])],[]⟩)] [(8,⟨[4],[],[(6,.sc (.k (.i .u32))),(7,.sc (.k (.i .u32))),(8,.sc (.k (.i .i64)))],[(4,[(6,.sc (.k (.i .u32)))])],[]⟩),(3,⟨[0],[],[(4,.sc (.k (.i .u32))),(5,.sc (.k (.i .i64)))],[(2,[(4,.sc (.k (.i .u32)))])],[]⟩)] Tryz.func239 (by kernel_rfl) (jI (fun _=>by kernel_rfl))
noncomputable def cK (a a1:MV):Option MV:=
 gS a fun a2=>
 gS a1 fun sN=>
 bd (eu (.s sN)) fun rA=>
 gT rA fun vs=>
 J1 .u32 .u32 vs fun x x1=>
 bd (Loop (fun oJ=>
 J1 .u32 .i64 oJ fun x2 x3=>
 bC (decide ((IntKind.wrap .i64 ((a2.length:Int)-(sN.length:Int)))≤x3)) (
 dv (decide ((0:Int)≤x3∧x3<(a2.length:Int)))<|
 some (.inl [.i .u32 (IntKind.wrap .u32 ((IntKind.wrap .u32 (x2 *16777619))+(IntKind.wrap .u32 ((a2.getD (Int.toNat x3) 0).toNat:Int)))),.i .i64 (IntKind.wrap .i64 (x3-1))])) (
 some (.inr (2,[.i .u32 x2])))) [.i .u32 0,.i .i64 (IntKind.wrap .i64 ((a2.length:Int)-1))]) fun p=>
 dv (Nat.beq p.1 2)<|
 gC p.2 fun m4 tJ=>
 gI .u32 m4 fun x4=>
 gN tJ<|
 bd (
 bC (decide (x4=x)) (
 dv (decide ((0:Int)≤(IntKind.wrap .i64 ((a2.length:Int)-(sN.length:Int)))∧(IntKind.wrap .i64 ((a2.length:Int)-(sN.length:Int)))≤(a2.length:Int)∧(a2.length:Int)≤(a2.length:Int)))<|
 some [.b (decide ((List.drop (Int.toNat (IntKind.wrap .i64 ((a2.length:Int)-(sN.length:Int)))) (List.take (Int.toNat (a2.length:Int)) a2))=sN))]) (
 some [.b false])) fun mh=>
 gC mh fun m5 xQ=>
 gB m5 fun x5=>
 gN xQ<|
 bC x5 (
 some (.i .i64 (IntKind.wrap .i64 ((a2.length:Int)-(sN.length:Int))))) (
 bd (Loop (fun xR=>
 J1 .u32 .i64 xR fun x6 x7=>
 bC (decide ((0:Int)≤x7)) (
 dv (decide ((0:Int)≤x7∧x7<(a2.length:Int)))<|
 dv (decide ((0:Int)≤(IntKind.wrap .i64 (x7+(sN.length:Int)))∧(IntKind.wrap .i64 (x7+(sN.length:Int)))<(a2.length:Int)))<|
 bd (
 bC (decide ((IntKind.wrap .u32 ((IntKind.wrap .u32 ((IntKind.wrap .u32 (x6 *16777619))+(IntKind.wrap .u32 ((a2.getD (Int.toNat x7) 0).toNat:Int))))-(IntKind.wrap .u32 (x1 *(IntKind.wrap .u32 ((a2.getD (Int.toNat (IntKind.wrap .i64 (x7+(sN.length:Int)))) 0).toNat:Int))))))=x)) (
 dv (decide ((0:Int)≤x7∧x7≤(IntKind.wrap .i64 (x7+(sN.length:Int)))∧(IntKind.wrap .i64 (x7+(sN.length:Int)))≤(a2.length:Int)))<|
 some [.b (decide ((List.drop (Int.toNat x7) (List.take (Int.toNat (IntKind.wrap .i64 (x7+(sN.length:Int)))) a2))=sN))]) (
 some [.b false])) fun rE=>
 gC rE fun m8 sH=>
 gB m8 fun x8=>
 gN sH<|
 bC x8 (
 some (.inr (1,[.i .i64 x7]))) (
 some (.inl [.i .u32 (IntKind.wrap .u32 ((IntKind.wrap .u32 ((IntKind.wrap .u32 (x6 *16777619))+(IntKind.wrap .u32 ((a2.getD (Int.toNat x7) 0).toNat:Int))))-(IntKind.wrap .u32 (x1 *(IntKind.wrap .u32 ((a2.getD (Int.toNat (IntKind.wrap .i64 (x7+(sN.length:Int)))) 0).toNat:Int)))))),.i .i64 (IntKind.wrap .i64 (x7-1))]))) (
 some (.inr (4,[])))) [.i .u32 x4,.i .i64 (IntKind.wrap .i64 ((IntKind.wrap .i64 ((a2.length:Int)-(sN.length:Int)))-1))]) fun p1=>
 bC (Nat.beq p1.1 4) (
 gN p1.2<|
 some (.i .i64 (-1))) (
 dv (Nat.beq p1.1 1)<|
 gC p1.2 fun m9 vB=>
 gI .i64 m9 fun x9=>
 gN vB<|
 some (.i .i64 x9)))
noncomputable def gw:Nat→List MV→Option MV:=br 199 (fw cK) lp
theorem lg:ap Tryz.prog cx gw:=mY oL [] 87 [(17,⟨[0,1,5,6,7,9,11],[],[],[(0,[(85,.sc (.k .b))])],[]⟩),(9,⟨[0,1,5,6,7,8,9],[],[],[(0,[(47,.sc (.k .b))])],[]⟩)] [] [(12,⟨[0,1,5,6,7],[],[(9,.sc (.k (.i .u32))),(11,.sc (.k (.i .i64)))],[(1,[(4,.sc (.k (.i .i64)))]),(4,[])],[]⟩),(6,⟨[0,1,5,6,7,8],[],[(9,.sc (.k (.i .u32))),(10,.sc (.k (.i .i64)))],[(2,[(9,.sc (.k (.i .u32)))])],[]⟩)] Tryz.func199 (by kernel_rfl) (bx (fun _ _=>by kernel_rfl))
noncomputable def jR (sA substr:MV):Option MV:=
 gS sA fun qa=>
 gS substr fun rf=>
 bC (decide ((rf.length:Int)=0)) (
 some (.i .i64 (qa.length:Int))) (
 bC (decide ((rf.length:Int)=1)) (
 dv (decide ((0:Int)≤0∧(0:Int)<(rf.length:Int)))<|
 bd (dC (.s qa) (.i .u8 ((rf.getD (Int.toNat 0) 0).toNat:Int))) fun rA=>
 gI .i64 rA fun x=>
 some (.i .i64 x)) (
 bC (decide ((rf.length:Int)=(qa.length:Int))) (
 bC (decide (rf=qa)) (
 some (.i .i64 0)) (
 some (.i .i64 (-1)))) (
 bC (decide ((qa.length:Int)<(rf.length:Int))) (
 some (.i .i64 (-1))) (
 bd (cK (.s qa) (.s rf)) fun aV=>
 gI .i64 aV fun x1=>
 some (.i .i64 x1)))))
noncomputable def rh:Nat→List MV→Option MV:=br 138 (fw jR) gw
theorem uN:ap Tryz.prog cx rh:=mY lg [] 36 [] [] [] Tryz.func138 (by kernel_rfl) (bx (fun _ _=>by kernel_rfl))
noncomputable def n9 (p:MV):Option MV:=
 gS p fun p1=>
 bd (kj (.s p1)) fun rA=>
 gB rA fun x=>
 bC (!x) (
 some (.cC [.s ([]:List UInt8),.i .i64 13])) (
 bC (decide (p1=([47]:List UInt8))) (
 some (.cC [.s ([]:List UInt8),.i .i64 6])) (
 bd (jR (.s p1) (.s ([47]:List UInt8))) fun aV=>
 gI .i64 aV fun x1=>
 dv (decide ((0:Int)≤0∧(0:Int)≤(imax 1 x1)∧(imax 1 x1)≤(p1.length:Int)))<|
 some (.cC [.s (List.drop (Int.toNat 0) (List.take (Int.toNat (imax 1 x1)) p1)),.i .i64 0])))
noncomputable def A4:Nat→List MV→Option MV:=br 74 (wN n9) rh
theorem Bs:ap Tryz.prog cx A4:=mY uN [] 16 [] [] [] Tryz.func74 (by kernel_rfl) (jI (fun _=>by kernel_rfl))
noncomputable def fU (sA p:MV):Option MV:=
 gA sA fun cs=>
 gC cs fun m jB=>
 gL m fun L=>
 gN jB<|
 gS p fun p1=>
 bd (kj (.s p1)) fun rA=>
 gB rA fun x=>
 bC (!x) (
 some (.cC [.i .i64 0,.i .i64 13])) (
 bd (iv (.agg [.list L]) (.s p1)) fun aV=>
 gT aV fun vs=>
 K9 .i64 vs fun x1 x2=>
 bC (!x2) (
 some (.cC [.i .i64 0,.i .i64 6])) (
 some (.cC [.i .i64 x1,.i .i64 0])))
noncomputable def uw:Nat→List MV→Option MV:=br 220 (fw fU) A4
theorem wS:ap Tryz.prog cx uw:=mY Bs [] 20 [] [] [] Tryz.func220 (by kernel_rfl) (bx (fun _ _=>by kernel_rfl))
noncomputable def pz (sA p:MV):Option MV:=
 gA sA fun cs=>
 gC cs fun m jB=>
 gL m fun L=>
 gN jB<|
 gS p fun p1=>
 bd (fU (.agg [.list L]) (.s p1)) fun rA=>
 gT rA fun vs=>
 J1 .i64 .i64 vs fun x x1=>
 bC (!decide (x1=0)) (
 some (.cC [.agg (oY ([]:List UInt8) ([]:List UInt8) 0 0),.i .i64 x1])) (
 idx L x fun y=>
 gA y fun iL=>
 ni .i64 .i64 iL fun Path Value Version cS=>
 some (.cC [.agg (oY Path Value Version cS),.i .i64 0]))
noncomputable def FY:Nat→List MV→Option MV:=br 172 (fw pz) uw
theorem EN:ap Tryz.prog cx FY:=mY wS [] 23 [] [] [] Tryz.func172 (by kernel_rfl) (bx (fun _ _=>by kernel_rfl))
noncomputable def mO (c c1 c2 c3 c4:MV):Option MV:=
 gP c fun cs=>
 gC cs fun m jB=>
 gS m fun x=>
 gN jB<|
 gP c1 fun iL=>
 gC iL fun m1 gE=>
 gB m1 fun x1=>
 gN gE<|
 gP c2 fun vX=>
 gC vX fun m2 oJ=>
 gL m2 fun L=>
 gN oJ<|
 gP c3 fun qy=>
 gC qy fun m3 rN=>
 gS m3 fun x2=>
 gN rN<|
 gP c4 fun U3=>
 gC U3 fun m4 oK=>
 gI .i64 m4 fun x3=>
 gN oK<|
 bd (kj (.s x)) fun rA=>
 gB rA fun x4=>
 bC (!x4) (
 some (.i .i64 13)) (
 bC x1 (
 some (.i .i64 7)) (
 bd (n9 (.s x)) fun aV=>
 gT aV fun vs=>
 gC vs fun m5 tJ=>
 gS m5 fun x5=>
 gC tJ fun m6 xQ=>
 gI .i64 m6 fun x6=>
 gN xQ<|
 bd (pz (.agg [.list L]) (.s x5)) fun cY=>
 gT cY fun mh=>
 gC mh fun m7 xR=>
 gA m7 fun cs5=>
 ni .i64 .i64 cs5 fun Path Value Version cS=>
 gC xR fun X8 Jp=>
 gI .i64 X8 fun x7=>
 gN Jp<|
 bC (!decide (x7=0)) (
 some (.i .i64 6)) (
 bC (!decide (cS=0)) (
 some (.i .i64 10)) (
 bC (decide ((1000:Int)<(x2.length:Int))) (
 some (.i .i64 5)) (
 bC (decide (x3<0)) (
 some (.i .i64 1)) (
 cD L fun len=>
 bC (decide ((200:Int)≤(len:Int))) (
 some (.i .i64 9)) (
 some (.i .i64 0))))))))
noncomputable def vH:Nat→List MV→Option MV:=br 217 (XY mO) FY
theorem xS:ap Tryz.prog cx vH:=mY EN [[.s],[.b],[.l],[.s],[.i .i64]] 44 [] [] [] Tryz.func217 (by kernel_rfl) (Ux (fun _ _ _ _ _=>by kernel_rfl))
noncomputable def pg (sA p value owner:MV):Option MV:=
 gA sA fun cs=>
 gC cs fun m jB=>
 gL m fun L=>
 gN jB<|
 gS p fun p1=>
 gS value fun vI=>
 gI .i64 owner fun z6=>
 bd (iv (.agg [.list L]) (.s p1)) fun rA=>
 gT rA fun vs=>
 K9 .i64 vs fun x x1=>
 bd (mO (.rp [.s p1]) (.rp [.b x1]) (.rp [.list L]) (.rp [.s vI]) (.rp [.i .i64 z6])) fun aV=>
 gI .i64 aV fun x2=>
 bC (!decide (x2=0)) (
 some (.cC [.agg [.list L],.i .i64 x2])) (
 both (
 bd (fb 4 48 [.list L]) fun cY=>
 gF cY fun xs=>
 bd (iO 48 [.fresh xs,.i .i64 x,.fresh ([.agg (oY p1 vI 0 z6)]:List MV)]) fun kw=>
 gF kw fun Hs=>
 some (.cC [.agg [.list Hs],.i .i64 0])) (
 bd (fb 4 48 [.list L]) fun EH=>
 gF EH fun Wt=>
 bd (iO 48 [.fresh Wt,.i .i64 x,.fresh ([.agg (oY p1 vI 0 z6)]:List MV)]) fun K8=>
 gF K8 fun xs3=>
 some (.cC [.agg [.list xs3],.i .i64 0])))
noncomputable def yU:Nat→List MV→Option MV:=br 170 (Uw pg) vH
theorem z7:ap Tryz.prog cx yU:=Hp xS [] [] 38 [] [] [] [(6,[0,1,3,4,5,6,7,2,8,9,10,11,12,0,1,3,4,5,6,7,8,2,9,10,11,12,2,8])] [] [] [] [] Tryz.func170 (by kernel_rfl) (MD (fun _ _ _ _=>by kernel_rfl))
noncomputable def en (w:List MV) (kind:MV):Option MV:=
 gI .i64 kind fun Wu=>
 ax .i64 .i64 .i64 .i64 .i64 .i64 .i64 .i64 .i64 .i64 .i64 w fun ch bR dr cA fS cn ln e8 dI c9 bL bu eT cj kK xE dg bS dh lA=>
 bd (
 bC (decide (xE=0)) (
 cD lA fun len=>
 cD ([.agg [.i .i64 Wu,.s dI]]:List MV) fun mN=>
 dv (decide ((len+mN) *24≤2^46))<|
 some (0,(al ch bR dr cA fS cn ln e8 dI c9 bL bu eT cj kK xE dg bS dh (lA++([.agg [.i .i64 Wu,.s dI]]:List MV))))) (
 some (0,(al ch bR dr cA fS cn ln e8 dI c9 bL bu eT cj kK xE dg bS dh lA)))) fun p=>
 dv (Nat.beq p.1 0)<|
 ax .i64 .i64 .i64 .i64 .i64 .i64 .i64 .i64 .i64 .i64 .i64 p.2 fun x x1 x2 x3 x4 x5 x6 x7 x8 x9 AX Bo C0 C1 BQ Bp C2 C3 C4 xs=>
 some (.dG (.cC []) (al x x1 x2 x3 x4 x5 x6 x7 x8 x9 AX Bo C0 C1 BQ Bp C2 C3 C4 xs))
noncomputable def qe:Nat→List MV→Option MV:=br 171 (cl2 en) yU
theorem tM:ap Tryz.prog cx qe:=J0 z7 0 iH [] [(0,1000000)] 26 [22] [] [] [(1,[0,1,2,3,4,5,6,7,8,9,10,11,12,13,14,15,16])] [] [(1,⟨[0,1],[],[],[(0,[(1000000,.box [.k .l,.k (.i .i64),.k .l,.k .l,.k .l,.k (.i .i64),.k (.i .i64),.k (.i .i64),.k .s,.k .s,.k (.i .i64),.k (.i .i64),.k (.i .i64),.k (.i .i64),.k (.i .i64),.k (.i .i64),.k .s,.k (.i .i64),.k .l,.own 2000019 77 false])])],[22]⟩)] [] [] Tryz.func171 (by kernel_rfl) (by kernel_rfl) (RU fun _ _=>by kernel_rfl)
noncomputable def jS (w:List MV):Option MV:=
 ax .i64 .i64 .i64 .i64 .i64 .i64 .i64 .i64 .i64 .i64 .i64 w fun ch bR dr cA fS cn ln e8 dI c9 bL bu eT cj kK xE dg bS dh lA=>
 bd (
 bC (!decide (bu=0)) (
 bd (wu (.agg [.i .i64 bR,.list dr]) (.i .i64 bu)) fun rA=>
 gB rA fun x=>
 some [.b (!x)]) (
 some [.b false])) fun vs=>
 gC vs fun Bq iu=>
 gB Bq fun x1=>
 gN iu<|
 bC x1 (
 some (.dG (.cC []) (al ch bR dr cA fS cn ln e8 dI c9 bL bu eT cj kK 14 dg bS dh lA))) (
 bd (pg (.agg [.list ch]) (.s dI) (.s c9) (.i .i64 bu)) fun aV=>
 gT aV fun mh=>
 gC mh fun On sJ=>
 gA On fun cs=>
 gC cs fun RX vE=>
 gL RX fun L=>
 gN vE<|
 gC sJ fun Oo sK=>
 gI .i64 Oo fun x2=>
 gN sK<|
 bd (en (al L bR dr cA fS cn ln e8 dI c9 bL bu eT cj kK x2 dg bS dh lA) (.i .i64 1)) fun cY=>
 gW cY fun x3 ls=>
 ax .i64 .i64 .i64 .i64 .i64 .i64 .i64 .i64 .i64 .i64 .i64 ls fun kl jx nQ lq rP lr xm rQ qf nR jy jz rR lu xn R5 nS kL nT Jh=>
 some (.dG (.cC []) (al kl jx nQ lq rP lr xm rQ qf nR jy jz rR lu xn R5 nS kL nT Jh)))
noncomputable def rj:Nat→List MV→Option MV:=br 106 (Om jS) qe
theorem uO:ap Tryz.prog cx rj:=J0 tM 0 iH [] [(0,1000000)] 60 [] [] [] [(0,[0,1,2,3,4,5,6,7,8,9,10,11,12,13,14,15,16,17,18,19]),(2,[0,1,2,3,4,5,6,7,8,9,10,11,12,13,14,15,16,17,18,19,20,21,22,23,24,25,26,27,28,29,30,31,32,33])] [(0,⟨[0,1000000],[2000019],[],[(0,[(21,.sc (.k .b))])],[]⟩)] [] [] [] Tryz.func106 (by kernel_rfl) (by kernel_rfl) (pZ fun _=>by kernel_rfl)
noncomputable def mP (w:List MV):Option MV:=
 ax .i64 .i64 .i64 .i64 .i64 .i64 .i64 .i64 .i64 .i64 .i64 w fun ch bR dr cA fS cn ln e8 dI c9 bL bu eT cj kK xE dg bS dh lA=>
 bd (pz (.agg [.list ch]) (.s dI)) fun rA=>
 gT rA fun vs=>
 gC vs fun Bq iu=>
 gA Bq fun cs=>
 ni .i64 .i64 cs fun Path Value Version cS=>
 gC iu fun U0 C9=>
 gI .i64 U0 fun x=>
 gN C9<|
 some (.dG (.cC []) (al ch bR dr cA fS cn ln e8 dI c9 bL bu eT cj kK x Value Version dh lA))
noncomputable def vJ:Nat→List MV→Option MV:=br 107 (Om mP) rj
theorem xT:ap Tryz.prog cx vJ:=J0 uO 0 iH [] [(0,1000000)] 35 [] [24] [(1,[2])] [(0,[0,1,2,3,4,5,6,7,8,9,10,11,12,13,14,15,16]),(1,[0,1,2,3,4,5,6,7,8,9,10,11,12,13,14,15,16,17,18,19])] [] [] [] [] Tryz.func107 (by kernel_rfl) (by kernel_rfl) (pZ fun _=>by kernel_rfl)
noncomputable def eN (sA p version:MV):Option MV:=
 gA sA fun cs=>
 gC cs fun m jB=>
 gL m fun L=>
 gN jB<|
 gS p fun p1=>
 gI .i64 version fun sO=>
 bd (fU (.agg [.list L]) (.s p1)) fun rA=>
 gT rA fun vs=>
 J1 .i64 .i64 vs fun x x1=>
 bd (
 bC (decide (x1=0)) (
 bC (!decide (sO=(-1))) (
 idx L x fun y=>
 gA y fun iL=>
 ni .i64 .i64 iL fun Path Value Version cS=>
 some [.b (!decide (sO=Version))]) (
 some [.b false])) (
 some [.b false])) fun mh=>
 gC mh fun m7 xR=>
 gB m7 fun x2=>
 gN xR<|
 bC x2 (
 some (.cC [.i .i64 x,.i .i64 8])) (
 some (.cC [.i .i64 x,.i .i64 x1]))
noncomputable def oa:Nat→List MV→Option MV:=br 221 (EF eN) vJ
theorem rS:ap Tryz.prog cx oa:=mY xT [] 35 [(2,⟨[2,3,8,9],[],[],[(0,[(31,.sc (.k .b))])],[]⟩)] [] [] Tryz.func221 (by kernel_rfl) (qZ (fun _ _ _=>by kernel_rfl))
noncomputable def wv (sA p value version:MV):Option MV:=
 gA sA fun cs=>
 gC cs fun m jB=>
 gL m fun L=>
 gN jB<|
 gS p fun p1=>
 gS value fun vI=>
 gI .i64 version fun sO=>
 bd (eN (.agg [.list L]) (.s p1) (.i .i64 sO)) fun rA=>
 gT rA fun vs=>
 J1 .i64 .i64 vs fun x x1=>
 bC (!decide (x1=0)) (
 some (.cC [.agg [.list L],.i .i64 x1])) (
 bC (decide ((1000:Int)<(vI.length:Int))) (
 some (.cC [.agg [.list L],.i .i64 5])) (
 idx L x fun y=>
 gA y fun iL=>
 ni .i64 .i64 iL fun Path Value Version cS=>
 bC (decide ((1000000000:Int)≤Version)) (
 some (.cC [.agg [.list L],.i .i64 9])) (
 bd (fb 4 48 [.list L]) fun aV=>
 gF aV fun xs=>
 idx xs x fun y1=>
 gA y1 fun vX=>
 ni .i64 .i64 vX fun kh gG cW xP=>
 idx (xs.set (Int.toNat x) (.agg (oY kh vI cW xP))) x fun y2=>
 gA y2 fun qy=>
 ni .i64 .i64 qy fun Wv Lb yV afv=>
 idx (xs.set (Int.toNat x) (.agg (oY kh vI cW xP))) x fun y3=>
 gA y3 fun U3=>
 ni .i64 .i64 U3 fun aca Yk acb Yl=>
 some (.cC [.agg [.list ((xs.set (Int.toNat x) (.agg (oY kh vI cW xP))).set (Int.toNat x) (.agg (oY aca Yk (IntKind.wrap .i64 (yV+1)) Yl)))],.i .i64 0]))))
noncomputable def FZ:Nat→List MV→Option MV:=br 173 (Uw wv) oa
theorem EO:ap Tryz.prog cx FZ:=mY rS [] 59 [] [] [] Tryz.func173 (by kernel_rfl) (MD (fun _ _ _ _=>by kernel_rfl))
noncomputable def mQ (w:List MV):Option MV:=
 ax .i64 .i64 .i64 .i64 .i64 .i64 .i64 .i64 .i64 .i64 .i64 w fun ch bR dr cA fS cn ln e8 dI c9 bL bu eT cj kK xE dg bS dh lA=>
 bd (wv (.agg [.list ch]) (.s dI) (.s c9) (.i .i64 bL)) fun rA=>
 gT rA fun vs=>
 gC vs fun Bq iu=>
 gA Bq fun cs=>
 gC cs fun On sJ=>
 gL On fun L=>
 gN sJ<|
 gC iu fun RX vE=>
 gI .i64 RX fun x=>
 gN vE<|
 bd (en (al L bR dr cA fS cn ln e8 dI c9 bL bu eT cj kK x dg bS dh lA) (.i .i64 2)) fun aV=>
 gW aV fun x1 ls=>
 ax .i64 .i64 .i64 .i64 .i64 .i64 .i64 .i64 .i64 .i64 .i64 ls fun kl jx nQ lq rP lr xm rQ qf nR jy jz rR lu xn R5 nS kL nT Jh=>
 bd (
 bC (decide (R5=0)) (
 bd (pz (.agg [.list kl]) (.s qf)) fun cY=>
 gT cY fun mh=>
 gC mh fun m43 Jn=>
 gA m43 fun iL=>
 ni .i64 .i64 iL fun Path Value Version cS=>
 gC Jn fun m48 Jo=>
 gI .i64 m48 fun x2=>
 gN Jo<|
 some (0,(al kl jx nQ lq rP lr xm rQ qf nR jy jz rR lu xn R5 nS Version nT Jh))) (
 some (0,(al kl jx nQ lq rP lr xm rQ qf nR jy jz rR lu xn R5 nS kL nT Jh)))) fun p=>
 dv (Nat.beq p.1 0)<|
 ax .i64 .i64 .i64 .i64 .i64 .i64 .i64 .i64 .i64 .i64 .i64 p.2 fun x3 x4 x5 x6 x7 x8 x9 AX Bo C0 C1 BQ Bp C2 C3 C4 C5 J3 ML xs=>
 some (.dG (.cC []) (al x3 x4 x5 x6 x7 x8 x9 AX Bo C0 C1 BQ Bp C2 C3 C4 C5 J3 ML xs))
noncomputable def vK:Nat→List MV→Option MV:=br 108 (Om mQ) FZ
theorem xU:ap Tryz.prog cx vK:=J0 EO 0 iH [] [(0,1000000)] 64 [] [] [] [(0,[0,1,2,3,4,5,6,7,8,9,10,11,12,13,14,15,16,17,18,19,20,21,22,23,24,25,26,27,28,29,30,31,32,33]),(3,[0,1,2,3,4,5,6,7,8,9,10,11,12,13,14,15,16])] [] [(3,⟨[0],[],[],[(0,[(1000000,.box [.k .l,.k (.i .i64),.k .l,.k .l,.k .l,.k (.i .i64),.k (.i .i64),.k (.i .i64),.k .s,.k .s,.k (.i .i64),.k (.i .i64),.k (.i .i64),.k (.i .i64),.k (.i .i64),.k (.i .i64),.k .s,.k (.i .i64),.k .l,.own 2000019 77 false])])],[]⟩)] [] [] Tryz.func108 (by kernel_rfl) (by kernel_rfl) (pZ fun _=>by kernel_rfl)
noncomputable def fF (s1 s2:MV):Option MV:=
 gL s1 fun qd=>
 gL s2 fun uM=>
 cD qd fun len=>
 cD uM fun mN=>
 bC (!decide ((len:Int)=(mN:Int))) (
 some (.b false)) (
 cD qd fun nD=>
 bd (Loop (fun jB=>
 gC jB fun m gE=>
 gI .i64 m fun x=>
 gN gE<|
 bC (decide (x<(nD:Int))) (
 idx qd x fun y=>
 gS y fun x1=>
 idx uM x fun y1=>
 gS y1 fun x2=>
 bC (!decide (x1=x2)) (
 some (.inr (1,[.b false]))) (
 some (.inl [.i .i64 (IntKind.wrap .i64 (x+1))]))) (
 some (.inr (2,[])))) [.i .i64 0]) fun p=>
 bC (Nat.beq p.1 2) (
 gN p.2<|
 some (.b true)) (
 dv (Nat.beq p.1 1)<|
 gC p.2 fun m1 oJ=>
 gB m1 fun x3=>
 gN oJ<|
 some (.b x3)))
noncomputable def qg:Nat→List MV→Option MV:=br 142 (fw fF) vK
theorem tN:ap Tryz.prog cx qg:=Hp xU [] [] 26 [] [] [] [(6,[0,1,2,3,4,5,6,7,8])] [] [] [(4,⟨[0,1,12],[],[(13,.sc (.k (.i .i64)))],[(1,[(4,.sc (.k .b))]),(2,[])],[]⟩)] [] Tryz.func142 (by kernel_rfl) (bx (fun _ _=>by kernel_rfl))
noncomputable def qh (p q:MV):Option MV:=
 gS p fun p1=>
 gS q fun q1=>
 bd (iW (.s p1)) fun rA=>
 gT rA fun vs=>
 gC vs fun m jB=>
 gL m fun x=>
 gC jB fun m1 gE=>
 gB m1 fun x1=>
 gN gE<|
 bd (iW (.s q1)) fun aV=>
 gT aV fun mh=>
 gC mh fun m2 oJ=>
 gL m2 fun x2=>
 gC oJ fun m3 rN=>
 gB m3 fun x3=>
 gN rN<|
 bd (
 bC x1 (
 bC x3 (
 cD x2 fun len=>
 cD x fun mN=>
 bC (decide ((mN:Int)<(len:Int))) (
 cD x fun nD=>
 cD x2 fun z1=>
 dv (decide ((0:Int)≤0∧(0:Int)≤(nD:Int)∧(nD:Int)≤(z1:Int)))<|
 bd (fF (.list x) (.list (List.drop (Int.toNat 0) (List.take (Int.toNat (nD:Int)) x2)))) fun cY=>
 gB cY fun x4=>
 some [.b x4]) (
 some [.b false])) (
 some [.b false])) (
 some [.b false])) fun rE=>
 gC rE fun m4 oK=>
 gB m4 fun x5=>
 gN oK<|
 some (.b x5)
noncomputable def Dg:Nat→List MV→Option MV:=br 222 (fw qh) qg
theorem Dh:ap Tryz.prog cx Dg:=mY tN [] 38 [(3,⟨[5,6,7,8],[],[],[(0,[(4,.sc (.k .b))])],[]⟩)] [] [] Tryz.func222 (by kernel_rfl) (bx (fun _ _=>by kernel_rfl))
noncomputable def pi (sA p version:MV):Option MV:=
 gA sA fun cs=>
 gC cs fun m jB=>
 gL m fun L=>
 gN jB<|
 gS p fun p1=>
 gI .i64 version fun sO=>
 bd (eN (.agg [.list L]) (.s p1) (.i .i64 sO)) fun rA=>
 gT rA fun vs=>
 J1 .i64 .i64 vs fun x x1=>
 bC (decide (p1=([47]:List UInt8))) (
 some (.cC [.agg [.list L],.i .i64 13])) (
 bC (!decide (x1=0)) (
 some (.cC [.agg [.list L],.i .i64 x1])) (
 bd (
 cD L fun len=>
 bC (decide ((IntKind.wrap .i64 (x+1))<(len:Int))) (
 idx L (IntKind.wrap .i64 (x+1)) fun y=>
 gA y fun iL=>
 ni .i64 .i64 iL fun Path Value Version cS=>
 bd (qh (.s p1) (.s Path)) fun aV=>
 gB aV fun x2=>
 some [.b x2]) (
 some [.b false])) fun mh=>
 gC mh fun m7 xR=>
 gB m7 fun x3=>
 gN xR<|
 bC x3 (
 some (.cC [.agg [.list L],.i .i64 10])) (
 bd (fb 4 48 [.list L]) fun cY=>
 gF cY fun xs=>
 bd (nN [.fresh xs,.i .i64 x,.i .i64 (IntKind.wrap .i64 (x+1))]) fun kw=>
 gF kw fun Hs=>
 some (.cC [.agg [.list Hs],.i .i64 0]))))
noncomputable def yW:Nat→List MV→Option MV:=br 174 (EF pi) Dg
theorem z8:ap Tryz.prog cx yW:=mY Dh [] 53 [(6,⟨[1,3,6,8],[],[],[(0,[(26,.sc (.k .b))])],[47,51]⟩)] [] [] Tryz.func174 (by kernel_rfl) (qZ (fun _ _ _=>by kernel_rfl))
noncomputable def jT (w:List MV):Option MV:=
 ax .i64 .i64 .i64 .i64 .i64 .i64 .i64 .i64 .i64 .i64 .i64 w fun ch bR dr cA fS cn ln e8 dI c9 bL bu eT cj kK xE dg bS dh lA=>
 bd (pi (.agg [.list ch]) (.s dI) (.i .i64 bL)) fun rA=>
 gT rA fun vs=>
 gC vs fun Bq iu=>
 gA Bq fun cs=>
 gC cs fun On sJ=>
 gL On fun L=>
 gN sJ<|
 gC iu fun RX vE=>
 gI .i64 RX fun x=>
 gN vE<|
 bd (en (al L bR dr cA fS cn ln e8 dI c9 bL bu eT cj kK x dg bS dh lA) (.i .i64 3)) fun aV=>
 gW aV fun x1 ls=>
 ax .i64 .i64 .i64 .i64 .i64 .i64 .i64 .i64 .i64 .i64 .i64 ls fun kl jx nQ lq rP lr xm rQ qf nR jy jz rR lu xn R5 nS kL nT Jh=>
 some (.dG (.cC []) (al kl jx nQ lq rP lr xm rQ qf nR jy jz rR lu xn R5 nS kL nT Jh))
noncomputable def rk:Nat→List MV→Option MV:=br 109 (Om jT) yW
theorem uP:ap Tryz.prog cx rk:=J0 z8 0 iH [] [(0,1000000)] 31 [] [] [] [(0,[0,1,2,3,4,5,6,7,8,9,10,11,12,13,14,15,16,17,18,19,20,21,22,23,24,25,26,27,28])] [] [] [] [] Tryz.func109 (by kernel_rfl) (by kernel_rfl) (pZ fun _=>by kernel_rfl)
noncomputable def qi (p:MV):Option MV:=
 gS p fun p1=>
 bd (iW (.s p1)) fun rA=>
 gT rA fun vs=>
 gC vs fun m jB=>
 gL m fun x=>
 gC jB fun m1 gE=>
 gB m1 fun x1=>
 gN gE<|
 bC (!x1) (
 some (.cC [.list ([]:List MV),.i .i64 13])) (
 some (.cC [.list x,.i .i64 0]))
noncomputable def Di:Nat→List MV→Option MV:=br 224 (wN qi) rk
theorem Dj:ap Tryz.prog cx Di:=mY uP [] 14 [] [] [] Tryz.func224 (by kernel_rfl) (jI (fun _=>by kernel_rfl))
noncomputable def tO (a a1:MV):Option MV:=
 gA a fun cs=>
 gC cs fun m jB=>
 gL m fun L=>
 gN jB<|
 gS a1 fun sN=>
 bd (fU (.agg [.list L]) (.s sN)) fun rA=>
 gT rA fun vs=>
 J1 .i64 .i64 vs fun x x1=>
 bC (!decide (x1=0)) (
 some (.cC [.list ([]:List MV),.i .i64 x1])) (
 bd (qi (.s sN)) fun aV=>
 gT aV fun mh=>
 gC mh fun m3 rN=>
 gL m3 fun x2=>
 gC rN fun m4 oK=>
 gI .i64 m4 fun x3=>
 gN oK<|
 dv (rZ 4 L)<|
 cD L fun len=>
 dv (decide ((0:Int)≤(IntKind.wrap .i64 (x+1))∧(IntKind.wrap .i64 (x+1))≤(len:Int)∧(len:Int)≤(len:Int)))<|
 cD (List.drop (Int.toNat (IntKind.wrap .i64 (x+1))) (List.take (Int.toNat (len:Int)) L)) fun mN=>
 bd (Loop (fun tJ=>
 gC tJ fun m5 xQ=>
 gL m5 fun xs=>
 gC xQ fun m6 xR=>
 gI .i64 m6 fun x4=>
 gN xR<|
 bC (decide (x4<(mN:Int))) (
 idx (List.drop (Int.toNat (IntKind.wrap .i64 (x+1))) (List.take (Int.toNat (len:Int)) L)) x4 fun y=>
 gA y fun iL=>
 ni .i64 .i64 iL fun Path Value Version cS=>
 bd (qh (.s sN) (.s Path)) fun cY=>
 gB cY fun x5=>
 bC (!x5) (
 some (.inr (2,[.list xs]))) (
 bd (qi (.s Path)) fun kw=>
 gT kw fun rE=>
 gC rE fun X7 Jp=>
 gL X7 fun x6=>
 gC Jp fun X8 Jj=>
 gI .i64 X8 fun x7=>
 gN Jj<|
 cD x6 fun nD=>
 cD x2 fun z1=>
 bd (
 bC (decide ((nD:Int)=(IntKind.wrap .i64 ((z1:Int)+1)))) (
 cD x2 fun Ht=>
 idx x6 (Ht:Int) fun y1=>
 gS y1 fun x8=>
 cD xs fun Ym=>
 cD ([.s x8]:List MV) fun Yn=>
 dv (decide ((Ym+Yn) *16≤2^46))<|
 some (0,[.list (xs++([.s x8]:List MV))])) (
 some (0,[.list xs]))) fun p1=>
 dv (Nat.beq p1.1 0)<|
 gC p1.2 fun UJ R6=>
 gL UJ fun Hs=>
 gN R6<|
 some (.inl [.list Hs,.i .i64 (IntKind.wrap .i64 (x4+1))]))) (
 some (.inr (2,[.list xs])))) [.list ([]:List MV),.i .i64 0]) fun p=>
 dv (Nat.beq p.1 2)<|
 gC p.2 fun m14 acd=>
 gL m14 fun Wt=>
 gN acd<|
 some (.cC [.list Wt,.i .i64 0]))
noncomputable def Dk:Nat→List MV→Option MV:=br 175 (fw tO) Di
theorem Dl:ap Tryz.prog cx Dk:=Hp Dj [] [] 66 [62] [] [] [] [] [(12,⟨[1,8,13,33,34,35],[],[],[(0,[(10,.sc (.own 63 9 true))])],[62,63]⟩)] [(7,⟨[1,8,33,34],[],[(10,.sc (.own 63 9 true)),(35,.sc (.k (.i .i64)))],[(2,[(10,.sc (.own 63 9 true))])],[62,63]⟩)] [] Tryz.func175 (by kernel_rfl) (bx (fun _ _=>by kernel_rfl))
noncomputable def lJ (w:List MV):Option MV:=
 ax .i64 .i64 .i64 .i64 .i64 .i64 .i64 .i64 .i64 .i64 .i64 w fun ch bR dr cA fS cn ln e8 dI c9 bL bu eT cj kK xE dg bS dh lA=>
 bd (tO (.agg [.list ch]) (.s dI)) fun rA=>
 gT rA fun vs=>
 gC vs fun Bq iu=>
 gL Bq fun x=>
 gC iu fun On sJ=>
 gI .i64 On fun x1=>
 gN sJ<|
 some (.dG (.cC []) (al ch bR dr cA fS cn ln e8 dI c9 bL bu eT cj kK x1 dg bS x lA))
noncomputable def ux:Nat→List MV→Option MV:=br 110 (Om lJ) Dk
theorem wT:ap Tryz.prog cx ux:=J0 Dl 0 iH [] [(0,1000000)] 24 [] [] [] [(0,[0,1,2,3,4,5,6,7,8,9,10,11,12,13,14,15,16,17,18,19,20,21,22,23])] [] [] [] [] Tryz.func110 (by kernel_rfl) (by kernel_rfl) (pZ fun _=>by kernel_rfl)
noncomputable def tP (b id span:MV):Option MV:=
 gA b fun cs=>
 La .i64 cs fun fQ L=>
 gI .i64 id fun J4=>
 gI .i64 span fun F1=>
 bd (eY (.agg [.i .i64 fQ,.list L]) (.i .i64 J4)) fun rA=>
 gT rA fun vs=>
 K9 .i64 vs fun x x1=>
 bd (
 bC (decide (J4<1)) (
 some [.b true]) (
 bC (decide (F1<1)) (
 some [.b true]) (
 some [.b (decide ((1000:Int)<F1))]))) fun mh=>
 gC mh fun m4 oK=>
 gB m4 fun x2=>
 gN oK<|
 bC x2 (
 some (.cC [.agg [.i .i64 fQ,.list L],.i .i64 1])) (
 bC x1 (
 some (.cC [.agg [.i .i64 fQ,.list L],.i .i64 7])) (
 cD L fun len=>
 bC (decide ((50:Int)≤(len:Int))) (
 some (.cC [.agg [.i .i64 fQ,.list L],.i .i64 9])) (
 both (
 bd (fb 3 24 [.list L]) fun aV=>
 gF aV fun xs=>
 bd (iO 24 [.fresh xs,.i .i64 x,.fresh ([.agg [.i .i64 J4,.i .i64 F1,.i .i64 (IntKind.wrap .i64 (fQ+F1))]]:List MV)]) fun cY=>
 gF cY fun Hs=>
 some (.cC [.agg [.i .i64 fQ,.list Hs],.i .i64 0])) (
 bd (fb 3 24 [.list L]) fun kw=>
 gF kw fun Wt=>
 bd (iO 24 [.fresh Wt,.i .i64 x,.fresh ([.agg [.i .i64 J4,.i .i64 F1,.i .i64 (IntKind.wrap .i64 (fQ+F1))]]:List MV)]) fun EH=>
 gF EH fun xs3=>
 some (.cC [.agg [.i .i64 fQ,.list xs3],.i .i64 0])))))
noncomputable def Dm:Nat→List MV→Option MV:=br 176 (EF tP) ux
theorem Dp:ap Tryz.prog cx Dm:=Hp wT [] [] 52 [] [] [] [(8,[0,1,3,4,5,6,7,8,9,10,2,11,12,13,14,0,1,3,4,5,6,7,8,9,10,11,2,12,13,14,2,11])] [(2,⟨[1,2,3,6,8,9],[],[],[(0,[(16,.sc (.k .b))])],[39,48,49]⟩)] [] [] [] Tryz.func176 (by kernel_rfl) (qZ (fun _ _ _=>by kernel_rfl))
noncomputable def lK (w:List MV):Option MV:=
 ax .i64 .i64 .i64 .i64 .i64 .i64 .i64 .i64 .i64 .i64 .i64 w fun ch bR dr cA fS cn ln e8 dI c9 bL bu eT cj kK xE dg bS dh lA=>
 bd (tP (.agg [.i .i64 bR,.list dr]) (.i .i64 bu) (.i .i64 eT)) fun rA=>
 gT rA fun vs=>
 gC vs fun Bq iu=>
 gA Bq fun cs=>
 La .i64 cs fun fQ L=>
 gC iu fun Oo sK=>
 gI .i64 Oo fun x=>
 gN sK<|
 some (.dG (.cC []) (al ch fQ L cA fS cn ln e8 dI c9 bL bu eT cj kK x dg bS dh lA))
noncomputable def uy:Nat→List MV→Option MV:=br 111 (Om lK) Dm
theorem wU:ap Tryz.prog cx uy:=J0 Dp 0 iH [] [(0,1000000)] 29 [] [] [] [(0,[0,1,2,3,4,5,6,7,8,9,10,11,12,13,14,15,16,17,18,19,20,21,22,23,24,25,26,27,28])] [] [] [] [] Tryz.func111 (by kernel_rfl) (by kernel_rfl) (pZ fun _=>by kernel_rfl)
noncomputable def rl (b id:MV):Option MV:=
 gA b fun cs=>
 La .i64 cs fun fQ L=>
 gI .i64 id fun J4=>
 bd (eY (.agg [.i .i64 fQ,.list L]) (.i .i64 J4)) fun rA=>
 gT rA fun vs=>
 K9 .i64 vs fun x x1=>
 bC (!x1) (
 some (.cC [.agg [.i .i64 fQ,.list L],.i .i64 14])) (
 bd (fb 3 24 [.list L]) fun aV=>
 gF aV fun xs=>
 idx xs x fun y=>
 gA y fun iL=>
 EI .i64 .i64 .i64 iL fun Id Span jJ=>
 idx xs x fun y1=>
 gA y1 fun vX=>
 EI .i64 .i64 .i64 vX fun Id1 yQ Hr=>
 some (.cC [.agg [.i .i64 fQ,.list (xs.set (Int.toNat x) (.agg [.i .i64 Id1,.i .i64 yQ,.i .i64 (IntKind.wrap .i64 (fQ+Span))]))],.i .i64 0]))
noncomputable def A5:Nat→List MV→Option MV:=br 177 (fw rl) uy
theorem Bt:ap Tryz.prog cx A5:=Hp wU [] [] 36 [] [] [] [(5,[0,1,2,3,4,5,6,7,8,9,10,11,12,13,14])] [] [] [] [] Tryz.func177 (by kernel_rfl) (bx (fun _ _=>by kernel_rfl))
noncomputable def kM (w:List MV):Option MV:=
 ax .i64 .i64 .i64 .i64 .i64 .i64 .i64 .i64 .i64 .i64 .i64 w fun ch bR dr cA fS cn ln e8 dI c9 bL bu eT cj kK xE dg bS dh lA=>
 bd (rl (.agg [.i .i64 bR,.list dr]) (.i .i64 bu)) fun rA=>
 gT rA fun vs=>
 gC vs fun Bq iu=>
 gA Bq fun cs=>
 La .i64 cs fun fQ L=>
 gC iu fun Oo sK=>
 gI .i64 Oo fun x=>
 gN sK<|
 some (.dG (.cC []) (al ch fQ L cA fS cn ln e8 dI c9 bL bu eT cj kK x dg bS dh lA))
noncomputable def sP:Nat→List MV→Option MV:=br 112 (Om kM) A5
theorem vL:ap Tryz.prog cx sP:=J0 Bt 0 iH [] [(0,1000000)] 24 [] [] [] [(0,[0,1,2,3,4,5,6,7,8,9,10,11,12,13,14,15,16,17,18,19,20,21,22,23])] [] [] [] [] Tryz.func112 (by kernel_rfl) (by kernel_rfl) (pZ fun _=>by kernel_rfl)
noncomputable def rm (b id:MV):Option MV:=
 gA b fun cs=>
 La .i64 cs fun fQ L=>
 gI .i64 id fun J4=>
 bd (eY (.agg [.i .i64 fQ,.list L]) (.i .i64 J4)) fun rA=>
 gT rA fun vs=>
 K9 .i64 vs fun x x1=>
 bC (!x1) (
 some (.cC [.agg [.i .i64 fQ,.list L],.i .i64 14])) (
 bd (fb 3 24 [.list L]) fun aV=>
 gF aV fun xs=>
 bd (nN [.fresh xs,.i .i64 x,.i .i64 (IntKind.wrap .i64 (x+1))]) fun cY=>
 gF cY fun Hs=>
 some (.cC [.agg [.i .i64 fQ,.list Hs],.i .i64 0]))
noncomputable def A6:Nat→List MV→Option MV:=br 178 (fw rm) sP
theorem Bu:ap Tryz.prog cx A6:=mY vL [] 26 [] [] [] Tryz.func178 (by kernel_rfl) (bx (fun _ _=>by kernel_rfl))
noncomputable def tQ (sA owner:MV):Option MV:=
 gA sA fun cs=>
 gC cs fun m jB=>
 gL m fun L=>
 gN jB<|
 gI .i64 owner fun z6=>
 cD L fun len=>
 bd (Loop (fun gE=>
 gC gE fun m1 oJ=>
 gL m1 fun gone=>
 gC oJ fun m2 rN=>
 gL m2 fun t=>
 gC rN fun m3 oK=>
 gI .i64 m3 fun x=>
 gN oK<|
 bC (decide (x<(len:Int))) (
 idx L x fun y=>
 gA y fun iL=>
 ni .i64 .i64 iL fun Path Value Version cS=>
 bd (
 bC (decide ((0:Int)<z6)) (
 some [.b (decide (cS=z6))]) (
 some [.b false])) fun vs=>
 gC vs fun m8 Hq=>
 gB m8 fun x1=>
 gN Hq<|
 bC x1 (
 cD gone fun mN=>
 cD ([.s Path]:List MV) fun nD=>
 dv (decide ((mN+nD) *16≤2^46))<|
 some (.inl [.list (gone++([.s Path]:List MV)),.list t,.i .i64 (IntKind.wrap .i64 (x+1))])) (
 cD t fun z1=>
 cD ([.agg (oY Path Value Version cS)]:List MV) fun Ht=>
 dv (decide ((z1+Ht) *48≤2^46))<|
 some (.inl [.list gone,.list (t++([.agg (oY Path Value Version cS)]:List MV)),.i .i64 (IntKind.wrap .i64 (x+1))]))) (
 some (.inr (2,[.list gone,.list t])))) [.list ([]:List MV),.list ([]:List MV),.i .i64 0]) fun p=>
 dv (Nat.beq p.1 2)<|
 gC p.2 fun m9 sH=>
 gL m9 fun R7=>
 gC sH fun RH vB=>
 gL RH fun t1=>
 gN vB<|
 some (.cC [.agg [.list t1],.list R7])
noncomputable def Dq:Nat→List MV→Option MV:=br 228 (fw tQ) A6
theorem Dr:ap Tryz.prog cx Dq:=Hp Bu [] [] 40 [29,34] [] [] [] [(6,⟨[1,4,6,7,9,12,13,14],[30,35],[],[(0,[(25,.sc (.k .b))])],[29,30,34,35]⟩)] [] [(4,⟨[1,4,12,13],[],[(6,.sc (.own 30 9 true)),(7,.box [.own 35 98 true]),(14,.sc (.k (.i .i64)))],[(2,[(6,.sc (.own 30 9 true)),(7,.box [.own 35 98 true])])],[29,30,34,35]⟩)] [] Tryz.func228 (by kernel_rfl) (bx (fun _ _=>by kernel_rfl))
noncomputable def jr (w:List MV) (id:MV):Option MV:=
 gI .i64 id fun J4=>
 ax .i64 .i64 .i64 .i64 .i64 .i64 .i64 .i64 .i64 .i64 .i64 w fun ch bR dr cA fS cn ln e8 dI c9 bL bu eT cj kK xE dg bS dh lA=>
 bd (tQ (.agg [.list ch]) (.i .i64 J4)) fun rA=>
 gT rA fun vs=>
 gC vs fun Bq iu=>
 gA Bq fun cs=>
 gC cs fun On sJ=>
 gL On fun L=>
 gN sJ<|
 gC iu fun RX vE=>
 gL RX fun x=>
 gN vE<|
 cD x fun len=>
 bd (Loop (fun sK=>
 gC sK fun Oo Jk=>
 gI .i64 Oo fun x1=>
 ax .i64 .i64 .i64 .i64 .i64 .i64 .i64 .i64 .i64 .i64 .i64 Jk fun x2 x3 x4 x5 x6 x7 x8 x9 AX Bo C0 C1 BQ Bp C2 C3 C4 C5 J3 xs=>
 bC (decide (x1<(len:Int))) (
 idx x x1 fun y=>
 gS y fun ML=>
 cD xs fun mN=>
 cD ([.agg [.i .i64 3,.s ML]]:List MV) fun nD=>
 dv (decide ((mN+nD) *24≤2^46))<|
 some (.inl [.i .i64 (IntKind.wrap .i64 (x1+1)),.list x2,.i .i64 x3,.list x4,.list x5,.list x6,.i .i64 x7,.i .i64 x8,.i .i64 x9,.s AX,.s Bo,.i .i64 C0,.i .i64 C1,.i .i64 BQ,.i .i64 Bp,.i .i64 C2,.i .i64 C3,.s C4,.i .i64 C5,.list J3,.list (xs++([.agg [.i .i64 3,.s ML]]:List MV))])) (
 some (.inr (2,(al x2 x3 x4 x5 x6 x7 x8 x9 AX Bo C0 C1 BQ Bp C2 C3 C4 C5 J3 xs))))) [.i .i64 0,.list L,.i .i64 bR,.list dr,.list cA,.list fS,.i .i64 cn,.i .i64 ln,.i .i64 e8,.s dI,.s c9,.i .i64 bL,.i .i64 bu,.i .i64 eT,.i .i64 cj,.i .i64 kK,.i .i64 xE,.s dg,.i .i64 bS,.list dh,.list lA]) fun p=>
 dv (Nat.beq p.1 2)<|
 ax .i64 .i64 .i64 .i64 .i64 .i64 .i64 .i64 .i64 .i64 .i64 p.2 fun Tf U1 Yi x25 x26 x27 x28 x29 x30 x31 x32 x33 x34 x35 x36 x37 x38 x39 x40 Hs=>
 some (.dG (.cC []) (al Tf U1 Yi x25 x26 x27 x28 x29 x30 x31 x32 x33 x34 x35 x36 x37 x38 x39 x40 Hs))
noncomputable def uz:Nat→List MV→Option MV:=br 179 (cl2 jr) Dq
theorem wV:ap Tryz.prog cx uz:=J0 Dr 0 iH [] [(0,1000000)] 41 [36] [] [] [] [] [] [(3,⟨[0,23,24],[],[(25,.sc (.k (.i .i64))),(1000000,.box [.k .l,.k (.i .i64),.k .l,.k .l,.k .l,.k (.i .i64),.k (.i .i64),.k (.i .i64),.k .s,.k .s,.k (.i .i64),.k (.i .i64),.k (.i .i64),.k (.i .i64),.k (.i .i64),.k (.i .i64),.k .s,.k (.i .i64),.k .l,.own 2000019 77 false])],[(2,[(1000000,.box [.k .l,.k (.i .i64),.k .l,.k .l,.k .l,.k (.i .i64),.k (.i .i64),.k (.i .i64),.k .s,.k .s,.k (.i .i64),.k (.i .i64),.k (.i .i64),.k (.i .i64),.k (.i .i64),.k (.i .i64),.k .s,.k (.i .i64),.k .l,.own 2000019 77 false])])],[36]⟩)] [] Tryz.func179 (by kernel_rfl) (by kernel_rfl) (RU fun _ _=>by kernel_rfl)
noncomputable def kN (w:List MV):Option MV:=
 ax .i64 .i64 .i64 .i64 .i64 .i64 .i64 .i64 .i64 .i64 .i64 w fun ch bR dr cA fS cn ln e8 dI c9 bL bu eT cj kK xE dg bS dh lA=>
 bd (rm (.agg [.i .i64 bR,.list dr]) (.i .i64 bu)) fun rA=>
 gT rA fun vs=>
 gC vs fun Bq iu=>
 gA Bq fun cs=>
 La .i64 cs fun fQ L=>
 gC iu fun Oo sK=>
 gI .i64 Oo fun x=>
 gN sK<|
 bd (
 bC (decide (x=0)) (
 bd (jr (al ch fQ L cA fS cn ln e8 dI c9 bL bu eT cj kK x dg bS dh lA) (.i .i64 bu)) fun aV=>
 gW aV fun x1 ls=>
 ax .i64 .i64 .i64 .i64 .i64 .i64 .i64 .i64 .i64 .i64 .i64 ls fun kl jx nQ lq rP lr xm rQ qf nR jy jz rR lu xn R5 nS kL nT Jh=>
 some (0,(al kl jx nQ lq rP lr xm rQ qf nR jy jz rR lu xn R5 nS kL nT Jh))) (
 some (0,(al ch fQ L cA fS cn ln e8 dI c9 bL bu eT cj kK x dg bS dh lA)))) fun p=>
 dv (Nat.beq p.1 0)<|
 ax .i64 .i64 .i64 .i64 .i64 .i64 .i64 .i64 .i64 .i64 .i64 p.2 fun x2 x3 x4 x5 x6 x7 x8 x9 AX Bo C0 C1 BQ Bp C2 C3 C4 C5 J3 xs=>
 some (.dG (.cC []) (al x2 x3 x4 x5 x6 x7 x8 x9 AX Bo C0 C1 BQ Bp C2 C3 C4 C5 J3 xs))
noncomputable def sQ:Nat→List MV→Option MV:=br 113 (Om kN) uz
theorem vM:ap Tryz.prog cx sQ:=J0 wV 0 iH [] [(0,1000000)] 37 [] [] [] [(0,[0,1,2,3,4,5,6,7,8,9,10,11,12,13,14,15,16,17,18,19,20,21,22,23])] [] [(2,⟨[0],[],[],[(0,[(1000000,.box [.k .l,.k (.i .i64),.k .l,.k .l,.k .l,.k (.i .i64),.k (.i .i64),.k (.i .i64),.k .s,.k .s,.k (.i .i64),.k (.i .i64),.k (.i .i64),.k (.i .i64),.k (.i .i64),.k (.i .i64),.k .s,.k (.i .i64),.k .l,.own 2000019 77 false])])],[]⟩)] [] [] Tryz.func113 (by kernel_rfl) (by kernel_rfl) (pZ fun _=>by kernel_rfl)
noncomputable def tR (b now:MV):Option MV:=
 gA b fun cs=>
 La .i64 cs fun fQ L=>
 gI .i64 now fun U4=>
 bC (decide (U4<fQ)) (
 some (.cC [.agg [.i .i64 fQ,.list L],.list ([]:List MV),.i .i64 15])) (
 bC (decide ((1000000000:Int)<U4)) (
 some (.cC [.agg [.i .i64 fQ,.list L],.list ([]:List MV),.i .i64 5])) (
 cD L fun len=>
 bd (Loop (fun oJ=>
 gC oJ fun m2 rN=>
 gL m2 fun gone=>
 gC rN fun m3 oK=>
 gI .i64 m3 fun out=>
 gC oK fun m4 tJ=>
 gL m4 fun Oq=>
 gC tJ fun m5 xQ=>
 gI .i64 m5 fun x=>
 gN xQ<|
 bC (decide (x<(len:Int))) (
 idx L x fun y=>
 gA y fun iL=>
 EI .i64 .i64 .i64 iL fun Id Span jJ=>
 bC (decide (jJ≤U4)) (
 cD gone fun mN=>
 cD ([.i .i64 Id]:List MV) fun nD=>
 dv (decide ((mN+nD) *8≤2^46))<|
 some (.inl [.list (gone++([.i .i64 Id]:List MV)),.i .i64 out,.list Oq,.i .i64 (IntKind.wrap .i64 (x+1))])) (
 cD Oq fun z1=>
 cD ([.agg [.i .i64 Id,.i .i64 Span,.i .i64 jJ]]:List MV) fun Ht=>
 dv (decide ((z1+Ht) *24≤2^46))<|
 some (.inl [.list gone,.i .i64 out,.list (Oq++([.agg [.i .i64 Id,.i .i64 Span,.i .i64 jJ]]:List MV)),.i .i64 (IntKind.wrap .i64 (x+1))]))) (
 some (.inr (3,[.list gone,.i .i64 out,.list Oq])))) [.list ([]:List MV),.i .i64 U4,.list ([]:List MV),.i .i64 0]) fun p=>
 dv (Nat.beq p.1 3)<|
 gC p.2 fun m9 sH=>
 gL m9 fun R7=>
 La .i64 sH fun afw afx=>
 some (.cC [.agg [.i .i64 afw,.list afx],.list R7,.i .i64 0])))
noncomputable def Ds:Nat→List MV→Option MV:=br 180 (fw tR) sQ
theorem Dt:ap Tryz.prog cx Ds:=Hp vM [] [] 48 [37,42] [] [] [] [] [] [(8,⟨[1,4,24,25],[],[(7,.sc (.own 38 3 true)),(8,.box [.k (.i .i64),.own 43 126 true]),(26,.sc (.k (.i .i64)))],[(3,[(7,.sc (.own 38 3 true)),(8,.box [.k (.i .i64),.own 43 126 true])])],[37,38,42,43]⟩)] [] Tryz.func180 (by kernel_rfl) (bx (fun _ _=>by kernel_rfl))
noncomputable def lL (w:List MV):Option MV:=
 ax .i64 .i64 .i64 .i64 .i64 .i64 .i64 .i64 .i64 .i64 .i64 w fun ch bR dr cA fS cn ln e8 dI c9 bL bu eT cj kK xE dg bS dh lA=>
 bd (tR (.agg [.i .i64 bR,.list dr]) (.i .i64 eT)) fun rA=>
 gT rA fun vs=>
 gC vs fun Bq iu=>
 gA Bq fun cs=>
 La .i64 cs fun fQ L=>
 gC iu fun Oo sK=>
 gL Oo fun x=>
 gC sK fun m24 Jk=>
 gI .i64 m24 fun x1=>
 gN Jk<|
 bC (!decide (x1=0)) (
 some (.dG (.cC []) (al ch bR dr cA fS cn ln e8 dI c9 bL bu eT cj kK x1 dg bS dh lA))) (
 cD x fun len=>
 bd (Loop (fun C9=>
 gC C9 fun U0 Jl=>
 gI .i64 U0 fun x2=>
 ax .i64 .i64 .i64 .i64 .i64 .i64 .i64 .i64 .i64 .i64 .i64 Jl fun x3 x4 x5 x6 x7 x8 x9 AX Bo C0 C1 BQ Bp C2 C3 C4 C5 J3 ML xs=>
 bC (decide (x2<(len:Int))) (
 idx x x2 fun y=>
 gI .i64 y fun Tf=>
 bd (jr (al x3 x4 x5 x6 x7 x8 x9 AX Bo C0 C1 BQ Bp C2 C3 C4 C5 J3 ML xs) (.i .i64 Tf)) fun aV=>
 gW aV fun U1 ls=>
 ax .i64 .i64 .i64 .i64 .i64 .i64 .i64 .i64 .i64 .i64 .i64 ls fun kl jx nQ lq rP lr xm rQ qf nR jy jz rR lu xn R5 nS kL nT Jh=>
 some (.inl [.i .i64 (IntKind.wrap .i64 (x2+1)),.list kl,.i .i64 jx,.list nQ,.list lq,.list rP,.i .i64 lr,.i .i64 xm,.i .i64 rQ,.s qf,.s nR,.i .i64 jy,.i .i64 jz,.i .i64 rR,.i .i64 lu,.i .i64 xn,.i .i64 R5,.s nS,.i .i64 kL,.list nT,.list Jh])) (
 some (.inr (2,(al x3 x4 x5 x6 x7 x8 x9 AX Bo C0 C1 BQ Bp C2 C3 C4 C5 J3 ML xs))))) [.i .i64 0,.list ch,.i .i64 fQ,.list L,.list cA,.list fS,.i .i64 cn,.i .i64 ln,.i .i64 e8,.s dI,.s c9,.i .i64 bL,.i .i64 bu,.i .i64 eT,.i .i64 cj,.i .i64 kK,.i .i64 x1,.s dg,.i .i64 fQ,.list dh,.list lA]) fun p=>
 dv (Nat.beq p.1 2)<|
 ax .i64 .i64 .i64 .i64 .i64 .i64 .i64 .i64 .i64 .i64 .i64 p.2 fun Yi x25 x26 x27 x28 x29 x30 x31 x32 x33 x34 x35 x36 x37 x38 x39 x40 x41 x42 Hs=>
 some (.dG (.cC []) (al Yi x25 x26 x27 x28 x29 x30 x31 x32 x33 x34 x35 x36 x37 x38 x39 x40 x41 x42 Hs)))
noncomputable def uA:Nat→List MV→Option MV:=br 114 (Om lL) Ds
theorem wW:ap Tryz.prog cx uA:=J0 Dt 0 iH [] [(0,1000000)] 50 [] [33] [(1,[2])] [(0,[0,1,2,3,4,5,6,7,8,9,10,11,12,13,14,15,16,17,18]),(3,[0,1,2,3,4,5,6,7,8,9,10,11,12])] [] [] [(5,⟨[0,40,41],[],[(42,.sc (.k (.i .i64))),(1000000,.box [.k .l,.k (.i .i64),.k .l,.k .l,.k .l,.k (.i .i64),.k (.i .i64),.k (.i .i64),.k .s,.k .s,.k (.i .i64),.k (.i .i64),.k (.i .i64),.k (.i .i64),.k (.i .i64),.k (.i .i64),.k .s,.k (.i .i64),.k .l,.own 2000019 77 false])],[(2,[(1000000,.box [.k .l,.k (.i .i64),.k .l,.k .l,.k .l,.k (.i .i64),.k (.i .i64),.k (.i .i64),.k .s,.k .s,.k (.i .i64),.k (.i .i64),.k (.i .i64),.k (.i .i64),.k (.i .i64),.k (.i .i64),.k .s,.k (.i .i64),.k .l,.own 2000019 77 false])])],[]⟩)] [] Tryz.func114 (by kernel_rfl) (by kernel_rfl) (pZ fun _=>by kernel_rfl)
noncomputable def fj (sA v:MV):Option MV:=
 gL sA fun qa=>
 gA v fun cs=>
 EJ .i64 cs fun Path Client Kids=>
 cD qa fun len=>
 bd (Loop (fun rN=>
 gC rN fun m3 oK=>
 gI .i64 m3 fun x=>
 gN oK<|
 bC (decide (x<(len:Int))) (
 idx qa x fun y=>
 gA y fun iL=>
 EJ .i64 iL fun kh fg R8=>
 bC ((decide (Path=kh))&&((decide (Client=fg))&&(decide (Kids=R8)))) (
 some (.inr (1,[.i .i64 x]))) (
 some (.inl [.i .i64 (IntKind.wrap .i64 (x+1))]))) (
 some (.inr (2,[])))) [.i .i64 0]) fun p=>
 bC (Nat.beq p.1 2) (
 gN p.2<|
 some (.i .i64 (-1))) (
 dv (Nat.beq p.1 1)<|
 gC p.2 fun m7 tF=>
 gI .i64 m7 fun x1=>
 gN tF<|
 some (.i .i64 x1))
noncomputable def mR:Nat→List MV→Option MV:=br 250 (fw fj) uA
theorem qj:ap Tryz.prog cx mR:=Hp wW [] [] 19 [] [] [] [(4,[0,1,2,3,4,5])] [] [] [(2,⟨[0,3,7],[],[(8,.sc (.k (.i .i64)))],[(1,[(4,.sc (.k (.i .i64)))]),(2,[])],[]⟩)] [] Tryz.func250 (by kernel_rfl) (bx (fun _ _=>by kernel_rfl))
noncomputable def dW (sA v:MV):Option MV:=
 gL sA fun qa=>
 gA v fun cs=>
 EJ .i64 cs fun Path Client Kids=>
 bd (fj (.list qa) (.agg [.s Path,.i .i64 Client,.b Kids])) fun rA=>
 gI .i64 rA fun x=>
 some (.b (decide ((0:Int)≤x)))
noncomputable def kT:Nat→List MV→Option MV:=br 229 (fw dW) mR
theorem oc:ap Tryz.prog cx kT:=mY qj [] 9 [] [] [] Tryz.func229 (by kernel_rfl) (bx (fun _ _=>by kernel_rfl))
noncomputable def wz (t w:MV):Option MV:=
 gA t fun cs=>
 gC cs fun m jB=>
 gL m fun L=>
 gN jB<|
 gA w fun iL=>
 EJ .i64 iL fun Path Client Kids=>
 bd (kj (.s Path)) fun rA=>
 gB rA fun x=>
 bC (!x) (
 some (.cC [.agg [.list L],.i .i64 13])) (
 bC (decide (Client<0)) (
 some (.cC [.agg [.list L],.i .i64 1])) (
 bd (dW (.list L) (.agg [.s Path,.i .i64 Client,.b Kids])) fun aV=>
 gB aV fun x1=>
 bC x1 (
 some (.cC [.agg [.list L],.i .i64 0])) (
 cD L fun len=>
 bC (decide ((200:Int)≤(len:Int))) (
 some (.cC [.agg [.list L],.i .i64 9])) (
 both (
 bd (fb 3 32 [.list L]) fun cY=>
 gF cY fun xs=>
 cD xs fun mN=>
 cD ([.agg [.s Path,.i .i64 Client,.b Kids]]:List MV) fun nD=>
 dv (decide ((mN+nD) *32≤2^46))<|
 some (.cC [.agg [.list (xs++([.agg [.s Path,.i .i64 Client,.b Kids]]:List MV))],.i .i64 0])) (
 bd (fb 3 32 [.list L]) fun kw=>
 gF kw fun Hs=>
 cD Hs fun z1=>
 cD ([.agg [.s Path,.i .i64 Client,.b Kids]]:List MV) fun Ht=>
 dv (decide ((z1+Ht) *32≤2^46))<|
 some (.cC [.agg [.list (Hs++([.agg [.s Path,.i .i64 Client,.b Kids]]:List MV))],.i .i64 0]))))))
noncomputable def F3:Nat→List MV→Option MV:=br 181 (fw wz) kT
theorem EP:ap Tryz.prog cx F3:=Hp oc [] [] 36 [33] [] [] [(9,[0,1,3,2,4,5,6,7,8,0,1,3,4,2,5,6,7,8,2,4])] [] [] [] [] Tryz.func181 (by kernel_rfl) (bx (fun _ _=>by kernel_rfl))
noncomputable def kO (w:List MV):Option MV:=
 ax .i64 .i64 .i64 .i64 .i64 .i64 .i64 .i64 .i64 .i64 .i64 w fun ch bR dr cA fS cn ln e8 dI c9 bL bu eT cj kK xE dg bS dh lA=>
 bd (wz (.agg [.list cA]) (.agg [.s dI,.i .i64 cn,.b (decide (e8=11))])) fun rA=>
 gT rA fun vs=>
 gC vs fun Bq iu=>
 gA Bq fun cs=>
 gC cs fun On sJ=>
 gL On fun L=>
 gN sJ<|
 gC iu fun RX vE=>
 gI .i64 RX fun x=>
 gN vE<|
 some (.dG (.cC []) (al ch bR dr L fS cn ln e8 dI c9 bL bu eT cj kK x dg bS dh lA))
noncomputable def sR:Nat→List MV→Option MV:=br 115 (Om kO) F3
theorem vN:ap Tryz.prog cx sR:=J0 EP 0 iH [] [(0,1000000)] 38 [] [] [] [(0,[0,1,2,3,4,5,6,7,8,9,10,11,12,13,14,15,16,17,18]),(1,[0,1,2,3,4,5,6,7,8,9,10,11,12,13,14,15,16,17,18,19])] [] [] [] [] Tryz.func115 (by kernel_rfl) (by kernel_rfl) (pZ fun _=>by kernel_rfl)
noncomputable def tS:Option MV:=
 some (.list ([.func 105 [],.func 106 [],.func 107 [],.func 108 [],.func 109 [],.func 110 [],.func 111 [],.func 112 [],.func 113 [],.func 114 [],.func 115 [],.func 115 []]:List MV))
noncomputable def Du:Nat→List MV→Option MV:=br 59 (K5 tS) sR
theorem Dv:ap Tryz.prog cx Du:=mY vN [] 2 [] [] [] Tryz.func59 (by kernel_rfl) (yN (by kernel_rfl))
noncomputable def lz (c w:MV):Option MV:=
 gA c fun cs=>
 gC cs fun m jB=>
 gI .i64 m fun Kind=>
 gC jB fun m1 gE=>
 gS m1 fun Path=>
 gN gE<|
 gA w fun iL=>
 EJ .i64 iL fun kh Client Kids=>
 bd (
 bC (decide (Kind<1)) (
 some [.b true]) (
 bC (decide ((3:Int)<Kind)) (
 some [.b true]) (
 bd (kj (.s Path)) fun rA=>
 gB rA fun x=>
 some [.b (!x)]))) fun vs=>
 gC vs fun m5 tJ=>
 gB m5 fun x1=>
 gN tJ<|
 bC x1 (
 some (.b false)) (
 bC (!Kids) (
 some (.b (decide (Path=kh)))) (
 bd (n9 (.s Path)) fun aV=>
 gT aV fun mh=>
 gC mh fun m6 xQ=>
 gS m6 fun x2=>
 gC xQ fun m7 xR=>
 gI .i64 m7 fun x3=>
 gN xR<|
 bd (
 bC (decide (x3=0)) (
 bC (!decide (Kind=2)) (
 some [.b (decide (x2=kh))]) (
 some [.b false])) (
 some [.b false])) fun rE=>
 gC rE fun m8 tF=>
 gB m8 fun x4=>
 gN tF<|
 some (.b x4)))
noncomputable def nU:Nat→List MV→Option MV:=br 27 (fw lz) Du
theorem yX:ap Tryz.prog cx nU:=mY Dv [] 48 [(6,⟨[2,3,5,6],[],[],[(0,[(4,.sc (.k .b))])],[]⟩),(1,⟨[2,3],[],[],[(0,[(20,.sc (.k .b))])],[]⟩)] [] [] Tryz.func27 (by kernel_rfl) (bx (fun _ _=>by kernel_rfl))
noncomputable def xp:Ctx:=UK nU [(2,1000002)] 17 [14] [] [] [] [] [(3,⟨[1,2,3,5],[],[],[(0,[(1000002,.box [.own 2000000 79 false])])],[14]⟩)] [] []
noncomputable def mS (w:MV) (c:MV) (c1:List MV):Option MV:=
 gA w fun cs=>
 EJ .i64 cs fun Path Client Kids=>
 gP c fun iL=>
 gC iL fun m3 rN=>
 gI .i64 m3 fun Kind=>
 gC rN fun m4 oK=>
 gS m4 fun kh=>
 gN oK<|
 gC c1 fun m5 tJ=>
 gL m5 fun x=>
 gN tJ<|
 bd (lz (.agg [.i .i64 Kind,.s kh]) (.agg [.s Path,.i .i64 Client,.b Kids])) fun rA=>
 gB rA fun x1=>
 bd (
 bC x1 (
 cD x fun len=>
 cD ([.agg [.s Path,.i .i64 Client,.b Kids,.i .i64 Kind,.s kh]]:List MV) fun mN=>
 dv (decide ((len+mN) *56≤2^46))<|
 some (0,[.list (x++([.agg [.s Path,.i .i64 Client,.b Kids,.i .i64 Kind,.s kh]]:List MV))])) (
 some (0,[.list x]))) fun p=>
 dv (Nat.beq p.1 0)<|
 gC p.2 fun m6 xQ=>
 gL m6 fun xs=>
 gN xQ<|
 some (.dG (.b x1) [.list xs])
theorem Bv (w:MV) (c:MV) (c1:List MV):E5 xp [[.i .i64,.s],[]] 2 MK Tryz.f118 [w,c,.cell (.func 0 c1)]=mS w c c1:=by kernel_rfl
noncomputable abbrev tT:List MV→Option MV:=fun ms=>match ms with|[a0,a1,.cell (.func off a2)]=>(match Nat.beq off 0 with|true=>mS a0 a1 a2|false=>none)|_=>none
theorem Bw {ms:List MV} {r:MV} (h:tT ms=some r): ∃c':Ctx,yI cx c'∧c'.g=nU∧Mt c' 118 Tryz.f118 [[.i .i64,.s],[]]=true∧E5 c' [[.i .i64,.s],[]] 2 MK Tryz.f118 ms=some r:=by
 unfold tT at h
 split at h
 ·rename_i a0 a1 off a2
  cases ho0:Nat.beq off 0 with
  |true=>
   have:=Nat.eq_of_beq_eq_true ho0
   subst this
   exact ⟨xp,⟨rfl,rfl,rfl,rfl,rfl,rfl,rfl,rfl,rfl⟩,rfl,by kernel_rfl,(Bv _ _ _).trans h⟩
  |false=>
  rw [ho0] at h
  simp only at h
  cases h
 ·cases h
noncomputable def tU:Nat→List MV→Option MV:=br 118 tT nU
theorem Aa:ap Tryz.prog cx tU:=
 yX.J0 (pos:=2) (ks:=MK) (bQ:=[[.i .i64,.s],[]]) nC RG RM RQ vz Ho Tryz.func118 (by kernel_rfl) (fun _=>rfl) Bw
noncomputable def yY:Nat→List MV→Option MV:=tU
theorem tV (x0:MV) (x1:MV) (x2:List MV):yY 118 [x0,x1,.cell (.func 0 x2)]=mS x0 x1 x2:=by kernel_rfl
noncomputable def tW (t lA:MV):Option MV:=
 gA t fun cs=>
 gC cs fun m jB=>
 gL m fun L=>
 gN jB<|
 gL lA fun Jh=>
 bd (fb 3 32 [.list L]) fun rA=>
 gF rA fun xs=>
 cD Jh fun len=>
 bd (Loop (fun gE=>
 gC gE fun m1 oJ=>
 gL m1 fun left=>
 gC oJ fun m2 rN=>
 gL m2 fun out=>
 gC rN fun m3 oK=>
 gI .i64 m3 fun x=>
 gN oK<|
 bC (decide (x<(len:Int))) (
 idx Jh x fun y=>
 gA y fun iL=>
 gC iL fun m4 tJ=>
 gI .i64 m4 fun Kind=>
 gC tJ fun m5 xQ=>
 gS m5 fun Path=>
 gN xQ<|
 dv (left.all Ke)<|
 bd (lj (E4 yY 118 [.rp [.i .i64 Kind,.s Path]]) [.list out] left) fun aV=>
 gC aV.2 fun m6 xR=>
 gL m6 fun x1=>
 gN xR<|
 some (.inl [.list aV.1,.list x1,.i .i64 (IntKind.wrap .i64 (x+1))])) (
 some (.inr (2,[.list left,.list out])))) [.list xs,.list ([]:List MV),.i .i64 0]) fun p=>
 dv (Nat.beq p.1 2)<|
 gC p.2 fun m7 tF=>
 gL m7 fun ace=>
 gC tF fun m8 Hq=>
 gL m8 fun Oq=>
 gN Hq<|
 some (.cC [.agg [.list ace],.list Oq])
noncomputable def xV:Nat→List MV→Option MV:=br 60 (fw tW) tU
theorem Dw:ap Tryz.prog cx xV:=Hp Aa [] [] 26 [] [25] [(8,[7])] [(8,[0,1,2,3,4])] [] [] [(4,⟨[4,13,14],[],[(6,.sc (.own 12 75 false)),(7,.box [.own 2000000 79 false]),(15,.sc (.k (.i .i64)))],[(2,[(6,.sc (.own 12 75 false)),(7,.box [.own 2000000 79 false])])],[]⟩)] [] Tryz.func60 (by kernel_rfl) (bx (fun _ _=>by kernel_rfl))
noncomputable def cE:Nat→List MV→Option MV:=xV
theorem od (x0:List MV):cE 105 [.cell (.func 0 x0)]=iU x0:=by kernel_rfl
theorem oM (x0:List MV):cE 106 [.cell (.func 0 x0)]=jS x0:=by kernel_rfl
theorem qD (x0:List MV):cE 107 [.cell (.func 0 x0)]=mP x0:=by kernel_rfl
theorem qE (x0:List MV):cE 108 [.cell (.func 0 x0)]=mQ x0:=by kernel_rfl
theorem oN (x0:List MV):cE 109 [.cell (.func 0 x0)]=jT x0:=by kernel_rfl
theorem qk (x0:List MV):cE 110 [.cell (.func 0 x0)]=lJ x0:=by kernel_rfl
theorem ql (x0:List MV):cE 111 [.cell (.func 0 x0)]=lK x0:=by kernel_rfl
theorem pj (x0:List MV):cE 112 [.cell (.func 0 x0)]=kM x0:=by kernel_rfl
theorem pk (x0:List MV):cE 113 [.cell (.func 0 x0)]=kN x0:=by kernel_rfl
theorem qm (x0:List MV):cE 114 [.cell (.func 0 x0)]=lL x0:=by kernel_rfl
theorem pn (x0:List MV):cE 115 [.cell (.func 0 x0)]=kO x0:=by kernel_rfl
noncomputable def ml (a a1:MV):Option MV:=
 gA a fun cs=>
 ox .i64 cs fun lW iT p0 lX Seen=>
 gA a1 fun iL=>
 jv .i64 .i64 .i64 .i64 .i64 .i64 iL fun Client Seq Kind Path Value Version Session Span=>
 bd (kJ (.agg (lU lW iT p0 lX Seen)) (.agg (ek Client Seq Kind Path Value Version Session Span))) fun rA=>
 gT rA fun vs=>
 gC vs fun UJ Jj=>
 gA UJ fun vX=>
 fL .i64 .i64 .i64 .i64 vX fun fg vA E gG cW Names=>
 gC Jj fun Bq iu=>
 gB Bq fun x=>
 gN iu<|
 bC x (
 some (.cC [.agg (lU lW iT p0 lX Seen),.agg (jL fg vA E gG cW Names),.list ([]:List MV)])) (
 bd (tS) fun aV=>
 gL aV fun x1=>
 idx x1 Kind fun y=>
 gR y fun x2=>
 J5 x2 fun fn cap=>
 gN cap<|
 bd (Ej [105,106,107,108,109,110,111,112,113,114,115] fn fun k=>cE k [.cell (.func 0 (al lW iT p0 lX Seen Client Seq Kind Path Value Version Session Span fg vA E gG cW Names ([]:List MV)))]) fun cY=>
 gW cY fun x3 ls=>
 ax .i64 .i64 .i64 .i64 .i64 .i64 .i64 .i64 .i64 .i64 .i64 ls fun ch bR dr cA fS cn ln e8 dI c9 bL bu eT cj kK xE dg bS dh lA=>
 bd (tW (.agg [.list cA]) (.list lA)) fun kw=>
 gT kw fun mh=>
 gC mh fun m41 Jm=>
 gA m41 fun qy=>
 gC qy fun m42 R3=>
 gL m42 fun L=>
 gN R3<|
 gC Jm fun m43 Jn=>
 gL m43 fun x4=>
 gN Jn<|
 bd (fb 6 72 [.list Seen]) fun EH=>
 gF EH fun xs=>
 bd (ir (.agg (lU lW iT p0 lX Seen)) (.i .i64 Client)) fun K8=>
 gT K8 fun rE=>
 K9 .i64 rE fun x5 x6=>
 bd (
 bC x6 (
 idx xs x5 fun y1=>
 gA y1 fun U3=>
 fL .i64 .i64 .i64 .i64 U3 fun Hu Yo E1 Lb yV xO=>
 some (0,(al ch bR dr L (xs.set (Int.toNat x5) (.agg (jL cj kK xE dg bS dh))) cn ln e8 dI c9 bL bu eT cj kK xE dg bS dh lA))) (
 bd (iO 72 [.fresh xs,.i .i64 x5,.fresh ([.agg (jL cj kK xE dg bS dh)]:List MV)]) fun rA6=>
 gF rA6 fun Hs=>
 some (0,(al ch bR dr L Hs cn ln e8 dI c9 bL bu eT cj kK xE dg bS dh lA)))) fun p=>
 dv (Nat.beq p.1 0)<|
 ax .i64 .i64 .i64 .i64 .i64 .i64 .i64 .i64 .i64 .i64 .i64 p.2 fun x7 x8 x9 AX Wt Bo C0 C1 BQ Bp C2 C3 C4 C5 J3 ML Tf U1 Yi xs3=>
 both (
 some (.cC [.agg (lU x7 x8 x9 AX Wt),.agg (jL C5 J3 ML Tf U1 Yi),.list x4])) (
 some (.cC [.agg (lU x7 x8 x9 AX Wt),.agg (jL C5 J3 ML Tf U1 Yi),.list x4])))
noncomputable def A7:Nat→List MV→Option MV:=br 18 (fw ml) xV
theorem Bx:ap Tryz.prog cx A7:=Hp Dw [] [] 103 [] [21] [(2,[7])] [(3,[0,1,2,3,4]),(5,[1,2,5,0,3,4,6]),(6,[0,1,2,3,4,5,6,7,8,9,10,11,12,13,14,15]),(7,[0,1,2,3,4,5,6,7,8,9,10,11,12,13]),(10,[0,1,2,3,4,5,6,7,8,9,10,11]),(11,[0,1,2,3,4,5,6,7,8,9,10,11,12,13,14,15,16]),(12,[0,1,2,3,4,5,6,8,9,7,10,11,0,1,2,3,4,5,6,7,8,9,10,11,9,7])] [] [(10,⟨[4,5,11,12],[],[],[(0,[(26,.box [.k .l,.k (.i .i64),.k .l,.k .l,.own 52 57 false,.k (.i .i64),.k (.i .i64),.k (.i .i64),.k .s,.k .s,.k (.i .i64),.k (.i .i64),.k (.i .i64),.k (.i .i64),.k (.i .i64),.k (.i .i64),.k .s,.k (.i .i64),.k .l,.own 2000019 77 true]),(9,.pt 26 0)])],[89,90,2000019]⟩)] [] [105,106,107,108,109,110,111,112,113,114,115] Tryz.func18 (by kernel_rfl) (bx (fun _ _=>by kernel_rfl))
noncomputable def wA:Option MV:=
 some (.agg [.list ([.agg (oY ([47]:List UInt8) ([]:List UInt8) 0 0)]:List MV)])
noncomputable def F4:Nat→List MV→Option MV:=br 71 (K5 wA) A7
theorem EQ:ap Tryz.prog cx F4:=mY Bx [] 4 [] [] [] Tryz.func71 (by kernel_rfl) (yN (by kernel_rfl))
noncomputable def wB:Option MV:=
 some (.agg [.i .i64 0,.list ([]:List MV)])
noncomputable def F5:Nat→List MV→Option MV:=br 72 (K5 wB) F4
theorem ER:ap Tryz.prog cx F5:=mY EQ [] 2 [] [] [] Tryz.func72 (by kernel_rfl) (yN (by kernel_rfl))
noncomputable def sS:Option MV:=
 bd (wA) fun rA=>
 gA rA fun cs=>
 gC cs fun m jB=>
 gL m fun L=>
 gN jB<|
 bd (wB) fun aV=>
 gA aV fun iL=>
 La .i64 iL fun fQ L1=>
 some (.agg (lU L fQ L1 ([]:List MV) ([]:List MV)))
noncomputable def F6:Nat→List MV→Option MV:=br 26 (K5 sS) F5
theorem ES:ap Tryz.prog cx F6:=mY ER [] 4 [] [] [] Tryz.func26 (by kernel_rfl) (yN (by kernel_rfl))
noncomputable def fO (s1 s2:MV):Option MV:=
 gL s1 fun qd=>
 gL s2 fun uM=>
 cD qd fun len=>
 cD uM fun mN=>
 bC (!decide ((len:Int)=(mN:Int))) (
 some (.b false)) (
 cD qd fun nD=>
 bd (Loop (fun jB=>
 gC jB fun m gE=>
 gI .i64 m fun x=>
 gN gE<|
 bC (decide (x<(nD:Int))) (
 idx qd x fun y=>
 gA y fun cs=>
 ni .i64 .i64 cs fun Path Value Version cS=>
 idx uM x fun y1=>
 gA y1 fun iL=>
 ni .i64 .i64 iL fun kh gG cW xP=>
 bC (!((decide (Path=kh))&&((decide (Value=gG))&&((decide (Version=cW))&&(decide (cS=xP)))))) (
 some (.inr (1,[.b false]))) (
 some (.inl [.i .i64 (IntKind.wrap .i64 (x+1))]))) (
 some (.inr (2,[])))) [.i .i64 0]) fun p=>
 bC (Nat.beq p.1 2) (
 gN p.2<|
 some (.b true)) (
 dv (Nat.beq p.1 1)<|
 gC p.2 fun m9 sH=>
 gB m9 fun x1=>
 gN sH<|
 some (.b x1)))
noncomputable def nl:Nat→List MV→Option MV:=br 139 (fw fO) F6
theorem qF:ap Tryz.prog cx nl:=Hp ES [] [] 26 [] [] [] [(6,[0,1,2,3,4,5,6,7,8])] [] [] [(4,⟨[0,1,12],[],[(13,.sc (.k (.i .i64)))],[(1,[(4,.sc (.k .b))]),(2,[])],[]⟩)] [] Tryz.func139 (by kernel_rfl) (bx (fun _ _=>by kernel_rfl))
noncomputable def tX (a b:MV):Option MV:=
 gA a fun cs=>
 gC cs fun m jB=>
 gL m fun L=>
 gN jB<|
 gA b fun iL=>
 gC iL fun m1 gE=>
 gL m1 fun L1=>
 gN gE<|
 bd (fO (.list L) (.list L1)) fun rA=>
 gB rA fun x=>
 some (.b x)
noncomputable def Dx:Nat→List MV→Option MV:=br 76 (fw tX) nl
theorem Dy:ap Tryz.prog cx Dx:=mY qF [] 10 [] [] [] Tryz.func76 (by kernel_rfl) (bx (fun _ _=>by kernel_rfl))
noncomputable def ew (s1 s2:MV):Option MV:=
 gL s1 fun qd=>
 gL s2 fun uM=>
 cD qd fun len=>
 cD uM fun mN=>
 bC (!decide ((len:Int)=(mN:Int))) (
 some (.b false)) (
 cD qd fun nD=>
 bd (Loop (fun jB=>
 gC jB fun m gE=>
 gI .i64 m fun x=>
 gN gE<|
 bC (decide (x<(nD:Int))) (
 idx qd x fun y=>
 gA y fun cs=>
 EI .i64 .i64 .i64 cs fun Id Span jJ=>
 idx uM x fun y1=>
 gA y1 fun iL=>
 EI .i64 .i64 .i64 iL fun Id1 yQ Hr=>
 bC (!((decide (Id=Id1))&&((decide (Span=yQ))&&(decide (jJ=Hr))))) (
 some (.inr (1,[.b false]))) (
 some (.inl [.i .i64 (IntKind.wrap .i64 (x+1))]))) (
 some (.inr (2,[])))) [.i .i64 0]) fun p=>
 bC (Nat.beq p.1 2) (
 gN p.2<|
 some (.b true)) (
 dv (Nat.beq p.1 1)<|
 gC p.2 fun m7 tF=>
 gB m7 fun x1=>
 gN tF<|
 some (.b x1)))
noncomputable def lB:Nat→List MV→Option MV:=br 140 (fw ew) Dx
theorem oO:ap Tryz.prog cx lB:=Hp Dy [] [] 26 [] [] [] [(6,[0,1,2,3,4,5,6,7,8])] [] [] [(4,⟨[0,1,12],[],[(13,.sc (.k (.i .i64)))],[(1,[(4,.sc (.k .b))]),(2,[])],[]⟩)] [] Tryz.func140 (by kernel_rfl) (bx (fun _ _=>by kernel_rfl))
noncomputable def tY (a b:MV):Option MV:=
 gA a fun cs=>
 La .i64 cs fun fQ L=>
 gA b fun iL=>
 La .i64 iL fun afy L1=>
 bd (
 bC (decide (fQ=afy)) (
 bd (ew (.list L) (.list L1)) fun rA=>
 gB rA fun x=>
 some [.b x]) (
 some [.b false])) fun vs=>
 gC vs fun m4 oK=>
 gB m4 fun x1=>
 gN oK<|
 some (.b x1)
noncomputable def Dz:Nat→List MV→Option MV:=br 77 (fw tY) lB
theorem DA:ap Tryz.prog cx Dz:=mY oO [] 17 [(1,⟨[2,3],[],[],[(0,[(4,.sc (.k .b))])],[]⟩)] [] [] Tryz.func77 (by kernel_rfl) (bx (fun _ _=>by kernel_rfl))
noncomputable def fm (s1 s2:MV):Option MV:=
 gL s1 fun qd=>
 gL s2 fun uM=>
 cD qd fun len=>
 cD uM fun mN=>
 bC (!decide ((len:Int)=(mN:Int))) (
 some (.b false)) (
 cD qd fun nD=>
 bd (Loop (fun jB=>
 gC jB fun m gE=>
 gI .i64 m fun x=>
 gN gE<|
 bC (decide (x<(nD:Int))) (
 idx qd x fun y=>
 gA y fun cs=>
 EJ .i64 cs fun Path Client Kids=>
 idx uM x fun y1=>
 gA y1 fun iL=>
 EJ .i64 iL fun kh fg R8=>
 bC (!((decide (Path=kh))&&((decide (Client=fg))&&(decide (Kids=R8))))) (
 some (.inr (1,[.b false]))) (
 some (.inl [.i .i64 (IntKind.wrap .i64 (x+1))]))) (
 some (.inr (2,[])))) [.i .i64 0]) fun p=>
 bC (Nat.beq p.1 2) (
 gN p.2<|
 some (.b true)) (
 dv (Nat.beq p.1 1)<|
 gC p.2 fun m7 tF=>
 gB m7 fun x1=>
 gN tF<|
 some (.b x1)))
noncomputable def mT:Nat→List MV→Option MV:=br 141 (fw fm) Dz
theorem qn:ap Tryz.prog cx mT:=Hp DA [] [] 26 [] [] [] [(6,[0,1,2,3,4,5,6,7,8])] [] [] [(4,⟨[0,1,12],[],[(13,.sc (.k (.i .i64)))],[(1,[(4,.sc (.k .b))]),(2,[])],[]⟩)] [] Tryz.func141 (by kernel_rfl) (bx (fun _ _=>by kernel_rfl))
noncomputable def tZ (a b:MV):Option MV:=
 gA a fun cs=>
 gC cs fun m jB=>
 gL m fun L=>
 gN jB<|
 gA b fun iL=>
 gC iL fun m1 gE=>
 gL m1 fun L1=>
 gN gE<|
 bd (fm (.list L) (.list L1)) fun rA=>
 gB rA fun x=>
 some (.b x)
noncomputable def DB:Nat→List MV→Option MV:=br 78 (fw tZ) mT
theorem DC:ap Tryz.prog cx DB:=mY qn [] 10 [] [] [] Tryz.func78 (by kernel_rfl) (bx (fun _ _=>by kernel_rfl))
noncomputable def ua (a b:MV):Option MV:=
 gA a fun cs=>
 fL .i64 .i64 .i64 .i64 cs fun Client Seq E Value Version Names=>
 gA b fun iL=>
 fL .i64 .i64 .i64 .i64 iL fun fg vA E1 gG cW xO=>
 bd (
 bC (decide (Client=fg)) (
 bC (decide (Seq=vA)) (
 bC (decide (E=E1)) (
 bC (decide (Value=gG)) (
 bC (decide (Version=cW)) (
 bd (fF (.list Names) (.list xO)) fun rA=>
 gB rA fun x=>
 some [.b x]) (
 some [.b false])) (
 some [.b false])) (
 some [.b false])) (
 some [.b false])) (
 some [.b false])) fun vs=>
 gC vs fun X8 Jp=>
 gB X8 fun x1=>
 gN Jp<|
 some (.b x1)
noncomputable def xW:Nat→List MV→Option MV:=br 80 (fw ua) DB
theorem DD:ap Tryz.prog cx xW:=mY DC [] 45 [(1,⟨[2,3],[],[],[(0,[(4,.sc (.k .b))])],[]⟩)] [] [] Tryz.func80 (by kernel_rfl) (bx (fun _ _=>by kernel_rfl))
noncomputable def bZ:Nat→List MV→Option MV:=xW
theorem ey (x0 x1:MV):bZ 80 [x0,x1]=ua x0 x1:=by kernel_rfl
noncomputable def bE (s1 s2 eq:MV):Option MV:=
 gL s1 fun qd=>
 gL s2 fun uM=>
 gR eq fun eq1=>
 cD qd fun len=>
 cD uM fun mN=>
 bC (!decide ((len:Int)=(mN:Int))) (
 some (.b false)) (
 cD qd fun nD=>
 bd (Loop (fun jB=>
 gC jB fun m gE=>
 gI .i64 m fun x=>
 gN gE<|
 bC (decide (x<(nD:Int))) (
 idx qd x fun y=>
 gA y fun cs=>
 fL .i64 .i64 .i64 .i64 cs fun Client Seq E Value Version Names=>
 idx uM x fun y1=>
 gA y1 fun iL=>
 fL .i64 .i64 .i64 .i64 iL fun fg vA E1 gG cW xO=>
 J5 eq1 fun fn cap=>
 dv (!gv fn)<|
 bd (bZ fn ([.agg (jL Client Seq E Value Version Names),.agg (jL fg vA E1 gG cW xO)]++cap)) fun rA=>
 gB rA fun x1=>
 bC (!x1) (
 some (.inr (1,[.b false]))) (
 some (.inl [.i .i64 (IntKind.wrap .i64 (x+1))]))) (
 some (.inr (2,[])))) [.i .i64 0]) fun p=>
 bC (Nat.beq p.1 2) (
 gN p.2<|
 some (.b true)) (
 dv (Nat.beq p.1 1)<|
 gC p.2 fun UJ R6=>
 gB UJ fun x2=>
 gN R6<|
 some (.b x2)))
noncomputable def dj:Nat→List MV→Option MV:=br 79 (EF bE) xW
theorem fA:ap Tryz.prog cx dj:=mY DD [] 32 [] [] [(4,⟨[1,2,15,16],[],[(17,.sc (.k (.i .i64)))],[(1,[(6,.sc (.k .b))]),(2,[])],[]⟩)] Tryz.func79 (by kernel_rfl) (qZ (fun _ _ _=>by kernel_rfl))
noncomputable def ub (a b:MV):Option MV:=
 gA a fun cs=>
 ox .i64 cs fun lW iT p0 lX Seen=>
 gA b fun iL=>
 ox .i64 iL fun uc sU Ab rn F7=>
 bd (
 bd (tX (.agg [.list lW]) (.agg [.list uc])) fun rA=>
 gB rA fun x=>
 bC x (
 bd (tY (.agg [.i .i64 iT,.list p0]) (.agg [.i .i64 sU,.list Ab])) fun aV=>
 gB aV fun x1=>
 bC x1 (
 bd (tZ (.agg [.list lX]) (.agg [.list rn])) fun cY=>
 gB cY fun x2=>
 bC x2 (
 bd (bE (.list Seen) (.list F7) (.func 80 [])) fun kw=>
 gB kw fun x3=>
 some [.b x3]) (
 some [.b false])) (
 some [.b false])) (
 some [.b false])) fun vs=>
 gC vs fun RH sH=>
 gB RH fun x4=>
 gN sH<|
 some (.b x4)
noncomputable def DE:Nat→List MV→Option MV:=br 34 (fw ub) dj
theorem DF:ap Tryz.prog cx DE:=mY fA [] 31 [(1,⟨[2,3],[],[],[(0,[(4,.sc (.k .b))])],[]⟩)] [] [] Tryz.func34 (by kernel_rfl) (bx (fun _ _=>by kernel_rfl))
noncomputable def sV:Option MV:=
 bd (sS) fun rA=>
 gA rA fun cs=>
 ox .i64 cs fun lW iT p0 lX Seen=>
 bd (ml (.agg (lU lW iT p0 lX Seen)) (.agg (ek 1 1 1 ([47,97]:List UInt8) ([120]:List UInt8) 0 0 0))) fun aV=>
 gT aV fun vs=>
 gC vs fun m5 tJ=>
 gA m5 fun iL=>
 ox .i64 iL fun uc sU Ab rn F7=>
 gC tJ fun X7 vB=>
 gA X7 fun vX=>
 fL .i64 .i64 .i64 .i64 vX fun Client Seq E Value Version Names=>
 gC vB fun m18 RV=>
 gL m18 fun x=>
 gN RV<|
 bd (ml (.agg (lU uc sU Ab rn F7)) (.agg (ek 1 1 1 ([47,97]:List UInt8) ([120]:List UInt8) 0 0 0))) fun cY=>
 gT cY fun mh=>
 gC mh fun m19 RW=>
 gA m19 fun qy=>
 ox .i64 qy fun MM Jq R9 MN Ww=>
 gC RW fun U0 C9=>
 gA U0 fun U3=>
 fL .i64 .i64 .i64 .i64 U3 fun fg vA E1 gG cW xO=>
 gC C9 fun m32 acf=>
 gL m32 fun x1=>
 gN acf<|
 bd (p8 (.agg (lU MM Jq R9 MN Ww)) (.i .i64 1)) fun kw=>
 gT kw fun rE=>
 gC rE fun m33 Sa=>
 gA m33 fun cs5=>
 fL .i64 .i64 .i64 .i64 cs5 fun Hu Yo E2 Lb yV afA=>
 gC Sa fun m40 R2=>
 gB m40 fun x2=>
 gN R2<|
 bd (
 bC (decide (E=0)) (
 bC (decide (E1=0)) (
 cD uc fun len=>
 bC (decide ((len:Int)=2)) (
 bd (ub (.agg (lU uc sU Ab rn F7)) (.agg (lU MM Jq R9 MN Ww))) fun EH=>
 gB EH fun x3=>
 bC x3 (
 bC x2 (
 some [.b (decide (Yo=1))]) (
 some [.b false])) (
 some [.b false])) (
 some [.b false])) (
 some [.b false])) (
 some [.b false])) fun vs3=>
 gC vs3 fun m41 Jm=>
 gB m41 fun x4=>
 gN Jm<|
 some (.b x4)
noncomputable def F8:Nat→List MV→Option MV:=br 17 (K5 sV) DE
theorem ET:ap Tryz.prog cx F8:=Hp DF [] [] 58 [] [] [] [(2,[1,0,2,3,4,5,6,7,8,9,10,11])] [(5,⟨[2,3,5,6,8,9],[],[],[(0,[(0,.sc (.k .b))])],[]⟩)] [] [] [] Tryz.func17 (by kernel_rfl) (yN (by kernel_rfl))
noncomputable def oP (a:MV):Option MV:=
 gL a fun a1=>
 bd (wm (.list a1)) fun rA=>
 gB rA fun x=>
 bC (!x) (
 bd (sV) fun aV=>
 gB aV fun x1=>
 some (.b x1)) (
 bd (sS) fun cY=>
 gA cY fun cs=>
 ox .i64 cs fun lW iT p0 lX Seen=>
 bd (Loop (fun tJ=>
 gC tJ fun m5 xQ=>
 gL m5 fun x2=>
 gC xQ fun m6 xR=>
 gI .i64 m6 fun x3=>
 gC xR fun m7 tF=>
 gL m7 fun x4=>
 gC tF fun m8 Hq=>
 gL m8 fun x5=>
 gC Hq fun m9 sH=>
 gL m9 fun x6=>
 gC sH fun RH vB=>
 gI .i64 RH fun x7=>
 gN vB<|
 cD a1 fun len=>
 bC (decide (x7<(len:Int))) (
 idx a1 x7 fun y=>
 gA y fun iL=>
 jv .i64 .i64 .i64 .i64 .i64 .i64 iL fun Client Seq Kind Path Value Version Session Span=>
 bd (ml (.agg (lU x2 x3 x4 x5 x6)) (.agg (ek Client Seq Kind Path Value Version Session Span))) fun kw=>
 gT kw fun vs=>
 gC vs fun m19 iu=>
 gA m19 fun vX=>
 ox .i64 vX fun uc sU Ab rn F7=>
 gC iu fun U0 Jl=>
 gA U0 fun qy=>
 fL .i64 .i64 .i64 .i64 qy fun fg vA E gG cW Names=>
 gC Jl fun m32 Sa=>
 gL m32 fun x8=>
 gN Sa<|
 bd (Loop (fun acg=>
 gC acg fun m33 ach=>
 gI .i64 m33 fun x9=>
 gN ach<|
 cD x8 fun mN=>
 bC (decide (x9<(mN:Int))) (
 bd (Loop (fun RY=>
 gC RY fun m34 RZ=>
 gB m34 fun AX=>
 gC RZ fun m35 R0=>
 gI .i64 m35 fun Bo=>
 gN R0<|
 cD x5 fun nD=>
 bC (decide (Bo<(nD:Int))) (
 bd (
 bC AX (
 some [.b true]) (
 idx x5 Bo fun y1=>
 gA y1 fun U3=>
 EJ .i64 U3 fun kh Hu Kids=>
 idx x8 x9 fun y2=>
 gA y2 fun cs5=>
 xM .i64 .i64 cs5 fun aci U5 acj ahv ahw=>
 some [.b ((decide (kh=aci))&&((decide (Hu=U5))&&(decide (Kids=acj))))])) fun mh=>
 gC mh fun m44 R4=>
 gB m44 fun C0=>
 gN R4<|
 some (.inl [.b C0,.i .i64 (IntKind.wrap .i64 (Bo+1))])) (
 some (.inr (6,[.b AX])))) [.b false,.i .i64 0]) fun p2=>
 dv (Nat.beq p2.1 6)<|
 gC p2.2 fun m45 Jo=>
 gB m45 fun C1=>
 gN Jo<|
 bd (Loop (fun ack=>
 gC ack fun m46 acm=>
 gB m46 fun BQ=>
 gC acm fun m47 acn=>
 gI .i64 m47 fun Bp=>
 gN acn<|
 bC (decide (Bp<x7)) (
 idx a1 Bp fun y3=>
 gA y3 fun cs6=>
 jv .i64 .i64 .i64 .i64 .i64 .i64 cs6 fun U6 Yo FU Wv Lb yV C6 yQ=>
 bd (
 bC BQ (
 some [.b true]) (
 idx x8 x9 fun y4=>
 gA y4 fun cs7=>
 xM .i64 .i64 cs7 fun afB Sb afC afD afE=>
 bC (decide (U6=Sb)) (
 idx x8 x9 fun y5=>
 gA y5 fun cs8=>
 xM .i64 .i64 cs8 fun Yp aco afF afG afH=>
 bC (decide (Wv=Yp)) (
 idx x8 x9 fun y6=>
 gA y6 fun cs9=>
 xM .i64 .i64 cs9 fun afI acp Yq afJ afK=>
 bC (decide ((decide (FU=11))=Yq)) (
 bC (decide (FU=10)) (
 some [.b true]) (
 some [.b (decide (FU=11))])) (
 some [.b false])) (
 some [.b false])) (
 some [.b false]))) fun rE=>
 gC rE fun m71 acq=>
 gB m71 fun C2=>
 gN acq<|
 some (.inl [.b C2,.i .i64 (IntKind.wrap .i64 (Bp+1))])) (
 some (.inr (8,[.b BQ])))) [.b false,.i .i64 0]) fun p3=>
 dv (Nat.beq p3.1 8)<|
 gC p3.2 fun m72 acr=>
 gB m72 fun C3=>
 gN acr<|
 bd (
 bC (!C1) (
 some [.b true]) (
 bC (!C3) (
 some [.b true]) (
 idx x8 x9 fun y7=>
 gA y7 fun afL=>
 xM .i64 .i64 afL fun afM acs afN Yr Ys=>
 idx x8 x9 fun y8=>
 gA y8 fun afO=>
 xM .i64 .i64 afO fun Yt Sc Yu afP afQ=>
 bd (lz (.agg [.i .i64 Yr,.s Ys]) (.agg [.s Yt,.i .i64 Sc,.b Yu])) fun EH=>
 gB EH fun C4=>
 bC (!C4) (
 some [.b true]) (
 some [.b (!decide (E=0))])))) fun vs3=>
 gC vs3 fun m83 acu=>
 gB m83 fun C5=>
 gN acu<|
 bC C5 (
 some (.inr (1,[.b false]))) (
 some (.inl [.i .i64 (IntKind.wrap .i64 (x9+1))]))) (
 some (.inr (4,[])))) [.i .i64 0]) fun p1=>
 bC (Nat.beq p1.1 4) (
 gN p1.2<|
 bd (
 cD rn fun z1=>
 cD x8 fun Ht=>
 cD x5 fun Ym=>
 bC (!decide ((IntKind.wrap .i64 ((z1:Int)+(Ht:Int)))=(Ym:Int))) (
 cD x8 fun Yn=>
 bC (decide ((0:Int)<(Yn:Int))) (
 some [.b true]) (
 cD rn fun afR=>
 cD x5 fun afS=>
 some [.b (!decide ((afR:Int)=(IntKind.wrap .i64 ((afS:Int)+1))))])) (
 some [.b false])) fun vs4=>
 gC vs4 fun m84 acv=>
 gB m84 fun J3=>
 gN acv<|
 bC J3 (
 some (.inr (1,[.b false]))) (
 some (.inl [.list uc,.i .i64 sU,.list Ab,.list rn,.list F7,.i .i64 (IntKind.wrap .i64 (x7+1))]))) (
 dv (Nat.beq p1.1 1)<|
 gC p1.2 fun m85 acw=>
 gB m85 fun ML=>
 gN acw<|
 some (.inr (1,[.b ML])))) (
 some (.inr (2,[])))) [.list lW,.i .i64 iT,.list p0,.list lX,.list Seen,.i .i64 0]) fun p=>
 bC (Nat.beq p.1 2) (
 gN p.2<|
 bd (sV) fun K8=>
 gB K8 fun Tf=>
 some (.b Tf)) (
 dv (Nat.beq p.1 1)<|
 gC p.2 fun m86 acx=>
 gB m86 fun U1=>
 gN acx<|
 some (.b U1)))
noncomputable def Bz:Nat→List MV→Option MV:=br 4 (wN oP) F8
theorem wX:ap Tryz.prog cx Bz:=Hp ET [] [] 174 [] [] [] [(7,[0,1,2,3,4,5,6,7,8,9,10,11,12,13,14]),(15,[0,1,2,3,4,5,6,7,8,9,10,11,12,13,14,15]),(20,[0,1,2,3,4,5,6,7,8,9,10,11,12,13,14,15,16,17,18,19,20,21,22,23,24,25,26,27,28,29,30,31,32,33,34,35,36,37,38,39,40,41,42,43,44,45]),(21,[0,1,2,3,4,5,6,7,8,9,10,11,12,13,14,15,16,17,18,19,20,21,22,23,24])] [(23,⟨[0,3,4,5,7],[],[],[(0,[(171,.sc (.k .b))])],[]⟩),(21,⟨[0,3,4,5,6,7,8,9,10],[],[],[(0,[(142,.sc (.k .b))])],[]⟩),(20,⟨[0,3,4,5,6,7,8,9,12,13],[],[],[(0,[(10,.sc (.k .b))])],[]⟩),(15,⟨[0,3,4,5,6,7,8,10,11],[],[],[(0,[(9,.sc (.k .b))])],[]⟩)] [] [(17,⟨[0,3,4,5,6,7,8,9],[],[(10,.sc (.k .b)),(12,.sc (.k (.i .i64)))],[(8,[(10,.sc (.k .b))])],[]⟩),(13,⟨[0,3,4,5,6,7,8,10],[],[(9,.sc (.k .b)),(11,.sc (.k (.i .i64)))],[(6,[(9,.sc (.k .b))])],[]⟩),(9,⟨[0,3,4,5,6,7],[],[(8,.sc (.k (.i .i64)))],[(1,[(2,.sc (.k .b))]),(4,[])],[]⟩),(5,⟨[0],[],[(3,.box [.k .l,.k (.i .i64),.k .l,.k .l,.k .l]),(4,.sc (.k (.i .i64)))],[(1,[(2,.sc (.k .b))]),(2,[])],[]⟩)] [] Tryz.func4 (by kernel_rfl) (jI (fun _=>by kernel_rfl))
end Dn.S
