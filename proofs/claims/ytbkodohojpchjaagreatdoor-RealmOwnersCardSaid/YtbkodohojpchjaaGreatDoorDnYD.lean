import Derived.Test.YtbkodohojpchjaaGreatDoorDnYTab
import Derived.Test.YtbkodohojpchjaaGreatDoorDnC
import Derived.Test.YtbkodohojpchjaaGreatDoorDnD
import Derived.Test.YtbkodohojpchjaaGreatDoorDnYT
import Derived.KernelRfl
import Derived.Test.YtbkodohojpchjaaGreatDoorProg
/-
  The functions, on plain values, and their contracts. Conditions: none.
-/
open Go Dn Go.Proofs
set_option linter.unusedVariables false
set_option linter.unusedSimpArgs false
set_option maxRecDepth 100000
namespace Dn.S
theorem nW:kn Tryz.prog (u7 JN):=U8 (by kernel_rfl)
theorem SV:Lv Tryz.prog (u7 JN):=O2 (by kernel_rfl)
theorem wm:Tryz.prog.follows .mixedOrders=true:=by kernel_rfl
def Mk {R:Type} (k0:IntKind) (l0:List MV) (K:Int→Bool→Option R):Option R:=gC l0 fun m0 l1=>gI k0 m0 fun x0=>gC l1 fun m1 l2=>gB m1 fun x1=>gN l2<|K x0 x1
def Kg {R:Type} (k0 k1:IntKind) (l0:List MV) (K:Int→Int→Option R):Option R:=gC l0 fun m0 l1=>gI k0 m0 fun x0=>gC l1 fun m1 l2=>gI k1 m1 fun x1=>gN l2<|K x0 x1
def B3 {R:Type} (k0 k1 k2:IntKind) (l0:List MV) (K:Int→Int→Int→Option R):Option R:=gC l0 fun m0 l1=>gI k0 m0 fun x0=>gC l1 fun m1 l2=>gI k1 m1 fun x1=>gC l2 fun m2 l3=>gI k2 m2 fun x2=>gN l3<|K x0 x1 x2
def fH {R:Type} (k0 k1 k2 k4:IntKind) (l0:List MV) (K:Int→Int→Int→List UInt8→Int→List MV→Option R):Option R:=gC l0 fun m0 l1=>gI k0 m0 fun x0=>gC l1 fun m1 l2=>gI k1 m1 fun x1=>gC l2 fun m2 l3=>gI k2 m2 fun x2=>gC l3 fun m3 l4=>gS m3 fun x3=>gC l4 fun m4 l5=>gI k4 m4 fun x4=>gC l5 fun m5 l6=>gL m5 fun x5=>gN l6<|K x0 x1 x2 x3 x4 x5
def kY {R:Type} (k0 k1 k2 k5 k6 k7:IntKind) (l0:List MV) (K:Int→Int→Int→List UInt8→List UInt8→Int→Int→Int→Option R):Option R:=gC l0 fun m0 l1=>gI k0 m0 fun x0=>gC l1 fun m1 l2=>gI k1 m1 fun x1=>gC l2 fun m2 l3=>gI k2 m2 fun x2=>gC l3 fun m3 l4=>gS m3 fun x3=>gC l4 fun m4 l5=>gS m4 fun x4=>gC l5 fun m5 l6=>gI k5 m5 fun x5=>gC l6 fun m6 l7=>gI k6 m6 fun x6=>gC l7 fun m7 l8=>gI k7 m7 fun x7=>gN l8<|K x0 x1 x2 x3 x4 x5 x6 x7
def Lb {R:Type} (k0:IntKind) (l0:List MV) (K:Int→List MV→Option R):Option R:=gC l0 fun m0 l1=>gI k0 m0 fun x0=>gC l1 fun m1 l2=>gL m1 fun x1=>gN l2<|K x0 x1
def nX {R:Type} (k1:IntKind) (l0:List MV) (K:List MV→Int→List MV→List MV→List MV→Option R):Option R:=gC l0 fun m0 l1=>gL m0 fun x0=>gC l1 fun m1 l2=>gI k1 m1 fun x1=>gC l2 fun m2 l3=>gL m2 fun x2=>gC l3 fun m3 l4=>gL m3 fun x3=>gC l4 fun m4 l5=>gL m4 fun x4=>gN l5<|K x0 x1 x2 x3 x4
def ax {R:Type} (k1 k5 k6 k7 k10 k11 k12 k13 k14 k15 k17:IntKind) (l0:List MV) (K:List MV→Int→List MV→List MV→List MV→Int→Int→Int→List UInt8→List UInt8→Int→Int→Int→Int→Int→Int→List UInt8→Int→List MV→List MV→Option R):Option R:=gC l0 fun m0 l1=>gL m0 fun x0=>gC l1 fun m1 l2=>gI k1 m1 fun x1=>gC l2 fun m2 l3=>gL m2 fun x2=>gC l3 fun m3 l4=>gL m3 fun x3=>gC l4 fun m4 l5=>gL m4 fun x4=>gC l5 fun m5 l6=>gI k5 m5 fun x5=>gC l6 fun m6 l7=>gI k6 m6 fun x6=>gC l7 fun m7 l8=>gI k7 m7 fun x7=>gC l8 fun m8 l9=>gS m8 fun x8=>gC l9 fun m9 l10=>gS m9 fun x9=>gC l10 fun Pp l11=>gI k10 Pp fun B4=>gC l11 fun Pq l12=>gI k11 Pq fun DM=>gC l12 fun VN l13=>gI k12 VN fun DN=>gC l13 fun VO l14=>gI k13 VO fun DO=>gC l14 fun m14 l15=>gI k14 m14 fun DP=>gC l15 fun m15 l16=>gI k15 m15 fun DQ=>gC l16 fun m16 l17=>gS m16 fun Fz=>gC l17 fun Zj l18=>gI k17 Zj fun FA=>gC l18 fun m18 l19=>gL m18 fun FB=>gC l19 fun m19 l20=>gL m19 fun FC=>gN l20<|K x0 x1 x2 x3 x4 x5 x6 x7 x8 x9 B4 DM DN DO DP DQ Fz FA FB FC
def FD {R:Type} (k1:IntKind) (l0:List MV) (K:List UInt8→Int→Bool→Option R):Option R:=gC l0 fun m0 l1=>gS m0 fun x0=>gC l1 fun m1 l2=>gI k1 m1 fun x1=>gC l2 fun m2 l3=>gB m2 fun x2=>gN l3<|K x0 x1 x2
def je {R:Type} (k2 k3:IntKind) (l0:List MV) (K:List UInt8→List UInt8→Int→Int→Option R):Option R:=gC l0 fun m0 l1=>gS m0 fun x0=>gC l1 fun m1 l2=>gS m1 fun x1=>gC l2 fun m2 l3=>gI k2 m2 fun x2=>gC l3 fun m3 l4=>gI k3 m3 fun x3=>gN l4<|K x0 x1 x2 x3
@[reducible] def j0 (x0 : Int) (x1 : Int) (x2 : Int) (x3 : List UInt8) (x4 : Int) (x5 : List MV) : List MV := [.i .i64 x0, .i .i64 x1, .i .i64 x2, .s x3, .i .i64 x4, .list x5]
@[reducible] def eC (x0 : Int) (x1 : Int) (x2 : Int) (x3 : List UInt8) (x4 : List UInt8) (x5 : Int) (x6 : Int) (x7 : Int) : List MV := [.i .i64 x0, .i .i64 x1, .i .i64 x2, .s x3, .s x4, .i .i64 x5, .i .i64 x6, .i .i64 x7]
@[reducible] def lC (x0 : List MV) (x1 : Int) (x2 : List MV) (x3 : List MV) (x4 : List MV) : List MV := [.list x0, .i .i64 x1, .list x2, .list x3, .list x4]
@[reducible] def ao (x0 : List MV) (x1 : Int) (x2 : List MV) (x3 : List MV) (x4 : List MV) (x5 : Int) (x6 : Int) (x7 : Int) (x8 : List UInt8) (x9 : List UInt8) (B4 : Int) (DM : Int) (DN : Int) (DO : Int) (DP : Int) (DQ : Int) (Fz : List UInt8) (FA : Int) (FB : List MV) (FC : List MV) : List MV := [.list x0, .i .i64 x1, .list x2, .list x3, .list x4, .i .i64 x5, .i .i64 x6, .i .i64 x7, .s x8, .s x9, .i .i64 B4, .i .i64 DM, .i .i64 DN, .i .i64 DO, .i .i64 DP, .i .i64 DQ, .s Fz, .i .i64 FA, .list FB, .list FC]
@[reducible] def nD (x0 : List UInt8) (x1 : List UInt8) (x2 : Int) (x3 : Int) : List MV := [.s x0, .s x1, .i .i64 x2, .i .i64 x3]
def NW:List (Nat×qe)→Nat→qe
 |[],_=>default
 |(k,s)::r,t=>bif Nat.beq k t then s else NW r t
def SW:List (Nat×List Nat)→Nat→List Nat
 |[],_=>[]
 |(k,s)::r,t=>bif Nat.beq k t then s else SW r t
def SX:List (Nat×Nat)→Nat→Nat
 |[],_=>0
 |(k,s)::r,t=>bif Nat.beq k t then s else SX r t
def kk (n:Nat):Nat:=n
def gv (n:Nat):Bool:=br [63,218,223,225,227,105,106,107,108,109,110,111,112,113,114,115,118,171,179] n
def frs (n:Nat):Bool:=br [61,63,116,117,194,218,219,223,225,226,227] n
def XF:List (Nat×Nat):=[(61,57),(63,57),(116,75),(117,75),(194,9),(218,98),(219,98),(223,98),(225,126),(226,126),(227,126)]
def NX:List (Nat×FloatKind)→Nat→Option FloatKind
 |[],_=>none
 |(k,s)::r,t=>bif Nat.beq k t then some s else NX r t
def SY:List (Nat×FloatKind):=[]
theorem SZ: ∀t k,NX SY t=some k→Tryz.prog.underlying t=some (.float k):=by
 intro t k h
 cases h
def S0:List (Nat×(Nat×Bool)):=[(222,(75,true))]
def S1:List (Nat×(Nat×List LK))→Nat→Option (Nat×List LK)
 |[],_=>none
 |(k,s)::r,t=>bif Nat.beq k t then some s else S1 r t
abbrev jf:List LK:=[.k (.l),.k (.i .i64),.k (.l),.k (.l),.k (.l),.k (.i .i64),.k (.i .i64),.k (.i .i64),.k (.s),.k (.s),.k (.i .i64),.k (.i .i64),.k (.i .i64),.k (.i .i64),.k (.i .i64),.k (.i .i64),.k (.s),.k (.i .i64),.k (.l),.own 2000019 77 false]
abbrev NY:List LK:=[.own 2000000 79 false]
def S2:List (Nat×(Nat×List LK)):=[(105,(0,jf)),(106,(0,jf)),(107,(0,jf)),(108,(0,jf)),(109,(0,jf)),(110,(0,jf)),(111,(0,jf)),(112,(0,jf)),(113,(0,jf)),(114,(0,jf)),(115,(0,jf)),(118,(2,NY)),(171,(0,jf)),(179,(0,jf))]
def dl (n:Nat):Bool:=br [117] n
def cx:Ctx:=⟨u7 JN,kk,fun _ _=>none,gv,frs,SX XF,S1 S2,[],0,[],[],fun _=>[],NX SY,Dq S0,fun _=>[],fun _=>default,fun _=>default,fun _=>default,dl,[]⟩
def VP (g:Nat→List MV→Option MV) (par:List (Nat×Nat)) (n:Nat) (bs fl:List Nat) (fz ord:List (Nat×List Nat)) (IQ Hp Fe:List (Nat×qe)) (dyn:List Nat):Ctx:=⟨u7 JN,kk,g,gv,frs,SX XF,S1 S2,par,n,bs,fl,SW fz,NX SY,Dq S0,SW ord,NW IQ,NW Hp,NW Fe,dl,dyn⟩
theorem S3:As Tryz.prog cx:=LZ (l:=S0) (by kernel_rfl) (fun _ _ h=>h)
def jq (t:Nat):TI:=match u7 JN t with|some I=>I|none=>⟨false,0,0,[],[],[],[],0,[]⟩
theorem tv9:cx.tv 9=some (jq 9):=by kernel_rfl
theorem Zk:cx.tv 22=some (jq 22):=by kernel_rfl
theorem Zl:cx.tv 25=some (jq 25):=by kernel_rfl
theorem af6:cx.tv 28=some (jq 28):=by kernel_rfl
theorem acv:cx.tv 31=some (jq 31):=by kernel_rfl
theorem acw:cx.tv 57=some (jq 57):=by kernel_rfl
theorem af7:cx.tv 75=some (jq 75):=by kernel_rfl
theorem Zm:cx.tv 98=some (jq 98):=by kernel_rfl
theorem S4:cx.tv 126=some (jq 126):=by kernel_rfl
theorem VQ:H3 Tryz.prog cx 117 75:=by
 have hE:cx.tv 75=some (jq 75):=by kernel_rfl
 refine VJ (P:=Tryz.prog) (f:=117) (fi:=182) (t:=28) (ti:=3) (tb:=4) (fu:=191) (el:=75) (fn:=Tryz.f117) (fni:=Tryz.f182) (r:=(fun k=>(([0,1,2,3,4,5,7,8,9,10,6,11,12]:List Nat)[k]?).getD 0)) (ri:=(fun k=>(([0,1,2,3,4,5,6,7]:List Nat)[k]?).getD 0)) (o:=iC Tryz.f117 iD) (oi:=iC Tryz.f182 iD) ⟨Tryz.func117,by kernel_rfl,by kernel_rfl,by kernel_rfl,by kernel_rfl,?_,by kernel_rfl⟩ ⟨Tryz.func182,by kernel_rfl,by kernel_rfl,by kernel_rfl,by kernel_rfl,?_,by kernel_rfl⟩ nW hE (by kernel_rfl) (Nat.le_of_ble_eq_true (by kernel_rfl))
 ·constructor<;>exact ⟨by kernel_rfl,by kernel_rfl,by kernel_rfl⟩
 ·constructor<;>exact ⟨by kernel_rfl,by kernel_rfl,by kernel_rfl⟩
theorem Ip:uo Tryz.prog cx:=by
 intro n hn
 unfold cx dl br at hn
 cases XG:Nat.beq 117 n with
 |true=>
  have:=Nat.eq_of_beq_eq_true XG
  subst this
  exact VQ
 |false=>
 simp only [XG,cond_false] at hn
 try unfold br at hn
 cases hn
def BC:Go.Shelf.Ren:=⟨fun|146=>194|221=>233|268=>252|138=>253|143=>254|195=>269|197=>270|218=>271|219=>272|260=>282|217=>283|225=>279|224=>278|267=>284|266=>286|314=>287|n=>n,fun|9=>9|31=>55|3=>3|4=>4|0=>0|105=>349|21=>21|5=>5|46=>226|119=>356|139=>359|138=>358|146=>327|51=>244|n=>n,fun|1=>0|3=>1|4=>2|n=>n⟩
theorem VR:Go.Proofs.Lays.n146 Tryz.prog BC:={
 mixed:=by kernel_rfl
 f138:=Tryz.func253.trans (congrArg some (by kernel_rfl))
 f143:=Tryz.func254.trans (congrArg some (by kernel_rfl))
 f146:=Tryz.func194.trans (congrArg some (by kernel_rfl))
 f195:=Tryz.func269.trans (congrArg some (by kernel_rfl))
 f197:=Tryz.func270.trans (congrArg some (by kernel_rfl))
 f217:=Tryz.func283.trans (congrArg some (by kernel_rfl))
 f218:=Tryz.func271.trans (congrArg some (by kernel_rfl))
 f219:=Tryz.func272.trans (congrArg some (by kernel_rfl))
 f221:=Tryz.func233.trans (congrArg some (by kernel_rfl))
 f224:=Tryz.func278.trans (congrArg some (by kernel_rfl))
 f225:=Tryz.func279.trans (congrArg some (by kernel_rfl))
 f260:=Tryz.func282.trans (congrArg some (by kernel_rfl))
 f266:=Tryz.func286.trans (congrArg some (by kernel_rfl))
 f267:=Tryz.func284.trans (congrArg some (by kernel_rfl))
 f268:=Tryz.func252.trans (congrArg some (by kernel_rfl))
 f314:=Tryz.func287.trans (congrArg some (by kernel_rfl))
 t0:=Tryz.underlying0
 a0:=Tryz.isAgg0
 z0:=Tryz.sizeOf0
 v0:=Tryz.zeroValue0
 t3:=Tryz.underlying3
 a3:=Tryz.isAgg3
 z3:=Tryz.sizeOf3
 v3:=Tryz.zeroValue3
 t4:=Tryz.underlying4
 a4:=Tryz.isAgg4
 z4:=Tryz.sizeOf4
 v4:=Tryz.zeroValue4
 t5:=Tryz.underlying5
 a5:=Tryz.isAgg5
 z5:=Tryz.sizeOf5
 v5:=Tryz.zeroValue5
 t9:=Tryz.underlying9
 a9:=Tryz.isAgg9
 z9:=Tryz.sizeOf9
 v9:=Tryz.zeroValue9
 t21:=Tryz.underlying21
 a21:=Tryz.isAgg21
 z21:=Tryz.sizeOf21
 v21:=Tryz.zeroValue21
 t31:=Tryz.underlying55
 a31:=Tryz.isAgg55
 z31:=Tryz.sizeOf55
 v31:=Tryz.zeroValue55
 t46:=Tryz.underlying226
 a46:=Tryz.isAgg226
 z46:=Tryz.sizeOf226
 v46:=Tryz.zeroValue226
 t51:=Tryz.underlying244
 a51:=Tryz.isAgg244
 z51:=Tryz.sizeOf244
 v51:=Tryz.zeroValue244
 t105:=Tryz.underlying349
 a105:=Tryz.isAgg349
 z105:=Tryz.sizeOf349
 v105:=Tryz.zeroValue349
 t119:=Tryz.underlying356
 a119:=Tryz.isAgg356
 z119:=Tryz.sizeOf356
 t138:=Tryz.underlying358
 a138:=Tryz.isAgg358
 z138:=Tryz.sizeOf358
 v138:=Tryz.zeroValue358
 t139:=Tryz.underlying359
 a139:=Tryz.isAgg359
 z139:=Tryz.sizeOf359
 v139:=Tryz.zeroValue359
 t146:=Tryz.underlying327
 a146:=Tryz.isAgg327
 z146:=Tryz.sizeOf327
 v146:=Tryz.zeroValue327
 g1:=by kernel_rfl
 g3:=by kernel_rfl
 g4:=by kernel_rfl}
def BD:Go.Shelf.Ren:=⟨fun|160=>235|232=>256|231=>255|227=>257|234=>259|233=>258|236=>261|235=>260|228=>273|271=>274|151=>238|197=>270|120=>285|152=>263|260=>282|137=>276|119=>277|224=>278|225=>279|217=>283|266=>286|n=>n,fun|9=>9|4=>4|3=>3|5=>5|117=>341|116=>340|0=>0|124=>344|21=>21|105=>349|46=>226|119=>356|139=>359|138=>358|n=>n,fun|3=>1|4=>2|n=>n⟩
theorem VS:Go.Proofs.Lays.n160 Tryz.prog BD:={
 mixed:=by kernel_rfl
 f119:=Tryz.func277.trans (congrArg some (by kernel_rfl))
 f120:=Tryz.func285.trans (congrArg some (by kernel_rfl))
 f137:=Tryz.func276.trans (congrArg some (by kernel_rfl))
 f151:=Tryz.func238.trans (congrArg some (by kernel_rfl))
 f152:=Tryz.func263.trans (congrArg some (by kernel_rfl))
 f160:=Tryz.func235.trans (congrArg some (by kernel_rfl))
 f197:=Tryz.func270.trans (congrArg some (by kernel_rfl))
 f217:=Tryz.func283.trans (congrArg some (by kernel_rfl))
 f224:=Tryz.func278.trans (congrArg some (by kernel_rfl))
 f225:=Tryz.func279.trans (congrArg some (by kernel_rfl))
 f227:=Tryz.func257.trans (congrArg some (by kernel_rfl))
 f228:=Tryz.func273.trans (congrArg some (by kernel_rfl))
 f231:=Tryz.func255.trans (congrArg some (by kernel_rfl))
 f232:=Tryz.func256.trans (congrArg some (by kernel_rfl))
 f233:=Tryz.func258.trans (congrArg some (by kernel_rfl))
 f234:=Tryz.func259.trans (congrArg some (by kernel_rfl))
 f235:=Tryz.func260.trans (congrArg some (by kernel_rfl))
 f236:=Tryz.func261.trans (congrArg some (by kernel_rfl))
 f260:=Tryz.func282.trans (congrArg some (by kernel_rfl))
 f266:=Tryz.func286.trans (congrArg some (by kernel_rfl))
 f271:=Tryz.func274.trans (congrArg some (by kernel_rfl))
 t0:=Tryz.underlying0
 a0:=Tryz.isAgg0
 z0:=Tryz.sizeOf0
 v0:=Tryz.zeroValue0
 t3:=Tryz.underlying3
 a3:=Tryz.isAgg3
 z3:=Tryz.sizeOf3
 v3:=Tryz.zeroValue3
 t4:=Tryz.underlying4
 a4:=Tryz.isAgg4
 z4:=Tryz.sizeOf4
 v4:=Tryz.zeroValue4
 t5:=Tryz.underlying5
 a5:=Tryz.isAgg5
 z5:=Tryz.sizeOf5
 v5:=Tryz.zeroValue5
 t9:=Tryz.underlying9
 a9:=Tryz.isAgg9
 z9:=Tryz.sizeOf9
 v9:=Tryz.zeroValue9
 t21:=Tryz.underlying21
 a21:=Tryz.isAgg21
 z21:=Tryz.sizeOf21
 v21:=Tryz.zeroValue21
 t46:=Tryz.underlying226
 a46:=Tryz.isAgg226
 z46:=Tryz.sizeOf226
 v46:=Tryz.zeroValue226
 t105:=Tryz.underlying349
 a105:=Tryz.isAgg349
 z105:=Tryz.sizeOf349
 v105:=Tryz.zeroValue349
 t116:=Tryz.underlying340
 a116:=Tryz.isAgg340
 z116:=Tryz.sizeOf340
 t117:=Tryz.underlying341
 a117:=Tryz.isAgg341
 z117:=Tryz.sizeOf341
 v117:=Tryz.zeroValue341
 t119:=Tryz.underlying356
 a119:=Tryz.isAgg356
 z119:=Tryz.sizeOf356
 t124:=Tryz.underlying344
 a124:=Tryz.isAgg344
 z124:=Tryz.sizeOf344
 v124:=Tryz.zeroValue344
 t138:=Tryz.underlying358
 a138:=Tryz.isAgg358
 z138:=Tryz.sizeOf358
 v138:=Tryz.zeroValue358
 t139:=Tryz.underlying359
 a139:=Tryz.isAgg359
 z139:=Tryz.sizeOf359
 v139:=Tryz.zeroValue359
 g3:=by kernel_rfl
 g4:=by kernel_rfl}
def BE:Go.Shelf.Ren:=⟨fun|151=>238|152=>263|137=>276|119=>277|224=>278|225=>279|217=>283|266=>286|n=>n,fun|9=>9|21=>21|4=>4|3=>3|5=>5|0=>0|46=>226|n=>n,fun|n=>n⟩
theorem VT:Go.Proofs.Lays.n151 Tryz.prog BE:={
 mixed:=by kernel_rfl
 f119:=Tryz.func277.trans (congrArg some (by kernel_rfl))
 f137:=Tryz.func276.trans (congrArg some (by kernel_rfl))
 f151:=Tryz.func238.trans (congrArg some (by kernel_rfl))
 f152:=Tryz.func263.trans (congrArg some (by kernel_rfl))
 f217:=Tryz.func283.trans (congrArg some (by kernel_rfl))
 f224:=Tryz.func278.trans (congrArg some (by kernel_rfl))
 f225:=Tryz.func279.trans (congrArg some (by kernel_rfl))
 f266:=Tryz.func286.trans (congrArg some (by kernel_rfl))
 t0:=Tryz.underlying0
 a0:=Tryz.isAgg0
 z0:=Tryz.sizeOf0
 v0:=Tryz.zeroValue0
 t3:=Tryz.underlying3
 a3:=Tryz.isAgg3
 z3:=Tryz.sizeOf3
 v3:=Tryz.zeroValue3
 t4:=Tryz.underlying4
 a4:=Tryz.isAgg4
 z4:=Tryz.sizeOf4
 v4:=Tryz.zeroValue4
 t5:=Tryz.underlying5
 a5:=Tryz.isAgg5
 z5:=Tryz.sizeOf5
 v5:=Tryz.zeroValue5
 t9:=Tryz.underlying9
 a9:=Tryz.isAgg9
 z9:=Tryz.sizeOf9
 v9:=Tryz.zeroValue9
 t21:=Tryz.underlying21
 a21:=Tryz.isAgg21
 z21:=Tryz.sizeOf21
 v21:=Tryz.zeroValue21
 t46:=Tryz.underlying226
 a46:=Tryz.isAgg226
 z46:=Tryz.sizeOf226
 v46:=Tryz.zeroValue226}
theorem VU {g:Nat→List MV→Option MV} (h:ap Tryz.prog cx g):ap Tryz.prog cx (bn 194 wj g):=h.B2 (fun _=>rfl) (fun ms r hr=>SL (P:=Tryz.prog) (ρ:=BC) (c:=cx) VR (by kernel_rfl) (by kernel_rfl) (by kernel_rfl) tv9 (by kernel_rfl) hr)
theorem VV {g:Nat→List MV→Option MV} (h:ap Tryz.prog cx g):ap Tryz.prog cx (bn 235 DG g):=h.B2 (fun _=>rfl) (fun ms r hr=>VE (P:=Tryz.prog) (ρ:=BD) (c:=cx) VS (by kernel_rfl) (by kernel_rfl) hr)
theorem VW {g:Nat→List MV→Option MV} (h:ap Tryz.prog cx g):ap Tryz.prog cx (bn 238 qu g):=h.B2 (fun _=>rfl) (fun ms r hr=>Mh (P:=Tryz.prog) (ρ:=BE) (c:=cx) VT (by kernel_rfl) hr)
theorem Zn {g:Nat→List MV→Option MV} (h:ap Tryz.prog cx g):ap Tryz.prog cx (bn 61 (fD 6 72) g):=h.B2 (fun _=>rfl) (fun ms r hr=>by
 obtain ⟨xs,rfl,rfl,h1,h2⟩:=rP hr
 exact zv (P:=Tryz.prog) (c:=cx) (f:=61) (fn:=Tryz.f61) (t:=31) (I:=jq 31) (E:=jq 57) (i0:=0) (i1:=1) (i2:=2) (i3:=3) (oA:=iC Tryz.f61 iD 0) (oB:=iC Tryz.f61 iD 1) (oC:=iC Tryz.f61 iD 2) (oD:=iC Tryz.f61 iD 3) (oE:=iC Tryz.f61 iD 4) (oF:=iC Tryz.f61 iD 5) (oG:=iC Tryz.f61 iD 6) (oH:=iC Tryz.f61 iD 7) nW acv (by kernel_rfl) acw (Nat.le_of_ble_eq_true (by kernel_rfl)) (by kernel_rfl) (by kernel_rfl) Tryz.func61 (by kernel_rfl) (by kernel_rfl) (by kernel_rfl) (by kernel_rfl)
  ⟨by kernel_rfl,by kernel_rfl,by kernel_rfl⟩ ⟨by kernel_rfl,by kernel_rfl,by kernel_rfl⟩ ⟨by kernel_rfl,by kernel_rfl,by kernel_rfl⟩ ⟨by kernel_rfl,by kernel_rfl,by kernel_rfl⟩ ⟨by kernel_rfl,by kernel_rfl,by kernel_rfl⟩ ⟨by kernel_rfl,by kernel_rfl,by kernel_rfl⟩ ⟨by kernel_rfl,by kernel_rfl,by kernel_rfl⟩ ⟨by kernel_rfl,by kernel_rfl,by kernel_rfl⟩ (by rw [show (jq 57).size=6 by kernel_rfl];exact h1) (by rw [show (jq 57).bytes=72 by kernel_rfl];exact h2))
theorem acx:DB Tryz.prog 63 31 3 4 57 122 Tryz.f63 (fun k=>k) (iC Tryz.f63 iD) (H9 (iC Tryz.f63 iD)):=by
 refine ⟨Tryz.func63,by kernel_rfl,by kernel_rfl,by kernel_rfl,by kernel_rfl,?_,wm,by kernel_rfl⟩
 constructor<;>first|exact ⟨by kernel_rfl,by kernel_rfl,by kernel_rfl⟩|kernel_rfl
theorem af8: ∀args w,(callFunc 122 args).run Tryz.prog w=((Extern.SlicesOverlaps.overlaps #[31,31] #[4] args).run Tryz.prog w).andThen fun v w'=> .ok (.value v) w':=fun args w=>run_callFunc_extern Tryz.func122 (by kernel_rfl) (by kernel_rfl) (by kernel_rfl) (e:=Extern.SlicesOverlaps.overlaps #[31,31] #[4]) (by kernel_rfl) args w
theorem Zo {g:Nat→List MV→Option MV} (h:ap Tryz.prog cx g):ap Tryz.prog cx (bn 63 (jn 72) g):=h.B2 (fun _=>rfl) (fun ms r hr=>by
 obtain ⟨xs,ys,i,rfl,rfl,h1,h2,h3⟩:=ur hr
 exact AD (P:=Tryz.prog) (c:=cx) (I:=jq 31) (E:=jq 57) acx nW acv (by kernel_rfl) acw (Nat.le_of_ble_eq_true (by kernel_rfl)) (by kernel_rfl) (by kernel_rfl) (by kernel_rfl) (by kernel_rfl) af8 h1 h2 (by rw [show (jq 57).bytes=72 by kernel_rfl];exact h3))
theorem VX {g:Nat→List MV→Option MV} (h:ap Tryz.prog cx g):ap Tryz.prog cx (bn 116 (fD 3 32) g):=h.B2 (fun _=>rfl) (fun ms r hr=>by
 obtain ⟨xs,rfl,rfl,h1,h2⟩:=rP hr
 exact zv (P:=Tryz.prog) (c:=cx) (f:=116) (fn:=Tryz.f116) (t:=28) (I:=jq 28) (E:=jq 75) (i0:=0) (i1:=1) (i2:=2) (i3:=3) (oA:=iC Tryz.f116 iD 0) (oB:=iC Tryz.f116 iD 1) (oC:=iC Tryz.f116 iD 2) (oD:=iC Tryz.f116 iD 3) (oE:=iC Tryz.f116 iD 4) (oF:=iC Tryz.f116 iD 5) (oG:=iC Tryz.f116 iD 6) (oH:=iC Tryz.f116 iD 7) nW af6 (by kernel_rfl) af7 (Nat.le_of_ble_eq_true (by kernel_rfl)) (by kernel_rfl) (by kernel_rfl) Tryz.func116 (by kernel_rfl) (by kernel_rfl) (by kernel_rfl) (by kernel_rfl)
  ⟨by kernel_rfl,by kernel_rfl,by kernel_rfl⟩ ⟨by kernel_rfl,by kernel_rfl,by kernel_rfl⟩ ⟨by kernel_rfl,by kernel_rfl,by kernel_rfl⟩ ⟨by kernel_rfl,by kernel_rfl,by kernel_rfl⟩ ⟨by kernel_rfl,by kernel_rfl,by kernel_rfl⟩ ⟨by kernel_rfl,by kernel_rfl,by kernel_rfl⟩ ⟨by kernel_rfl,by kernel_rfl,by kernel_rfl⟩ ⟨by kernel_rfl,by kernel_rfl,by kernel_rfl⟩ (by rw [show (jq 75).size=3 by kernel_rfl];exact h1) (by rw [show (jq 75).bytes=32 by kernel_rfl];exact h2))
theorem Zp:DB Tryz.prog 218 22 3 4 98 246 Tryz.f218 (fun k=>k) (iC Tryz.f218 iD) (H9 (iC Tryz.f218 iD)):=by
 refine ⟨Tryz.func218,by kernel_rfl,by kernel_rfl,by kernel_rfl,by kernel_rfl,?_,wm,by kernel_rfl⟩
 constructor<;>first|exact ⟨by kernel_rfl,by kernel_rfl,by kernel_rfl⟩|kernel_rfl
theorem acy: ∀args w,(callFunc 246 args).run Tryz.prog w=((Extern.SlicesOverlaps.overlaps #[22,22] #[4] args).run Tryz.prog w).andThen fun v w'=> .ok (.value v) w':=fun args w=>run_callFunc_extern Tryz.func246 (by kernel_rfl) (by kernel_rfl) (by kernel_rfl) (e:=Extern.SlicesOverlaps.overlaps #[22,22] #[4]) (by kernel_rfl) args w
theorem VY {g:Nat→List MV→Option MV} (h:ap Tryz.prog cx g):ap Tryz.prog cx (bn 218 (jn 48) g):=h.B2 (fun _=>rfl) (fun ms r hr=>by
 obtain ⟨xs,ys,i,rfl,rfl,h1,h2,h3⟩:=ur hr
 exact AD (P:=Tryz.prog) (c:=cx) (I:=jq 22) (E:=jq 98) Zp nW Zk (by kernel_rfl) Zm (Nat.le_of_ble_eq_true (by kernel_rfl)) (by kernel_rfl) (by kernel_rfl) (by kernel_rfl) (by kernel_rfl) acy h1 h2 (by rw [show (jq 98).bytes=48 by kernel_rfl];exact h3))
theorem VZ {g:Nat→List MV→Option MV} (h:ap Tryz.prog cx g):ap Tryz.prog cx (bn 219 (fD 4 48) g):=h.B2 (fun _=>rfl) (fun ms r hr=>by
 obtain ⟨xs,rfl,rfl,h1,h2⟩:=rP hr
 exact zv (P:=Tryz.prog) (c:=cx) (f:=219) (fn:=Tryz.f219) (t:=22) (I:=jq 22) (E:=jq 98) (i0:=0) (i1:=1) (i2:=2) (i3:=3) (oA:=iC Tryz.f219 iD 0) (oB:=iC Tryz.f219 iD 1) (oC:=iC Tryz.f219 iD 2) (oD:=iC Tryz.f219 iD 3) (oE:=iC Tryz.f219 iD 4) (oF:=iC Tryz.f219 iD 5) (oG:=iC Tryz.f219 iD 6) (oH:=iC Tryz.f219 iD 7) nW Zk (by kernel_rfl) Zm (Nat.le_of_ble_eq_true (by kernel_rfl)) (by kernel_rfl) (by kernel_rfl) Tryz.func219 (by kernel_rfl) (by kernel_rfl) (by kernel_rfl) (by kernel_rfl)
  ⟨by kernel_rfl,by kernel_rfl,by kernel_rfl⟩ ⟨by kernel_rfl,by kernel_rfl,by kernel_rfl⟩ ⟨by kernel_rfl,by kernel_rfl,by kernel_rfl⟩ ⟨by kernel_rfl,by kernel_rfl,by kernel_rfl⟩ ⟨by kernel_rfl,by kernel_rfl,by kernel_rfl⟩ ⟨by kernel_rfl,by kernel_rfl,by kernel_rfl⟩ ⟨by kernel_rfl,by kernel_rfl,by kernel_rfl⟩ ⟨by kernel_rfl,by kernel_rfl,by kernel_rfl⟩ (by rw [show (jq 98).size=4 by kernel_rfl];exact h1) (by rw [show (jq 98).bytes=48 by kernel_rfl];exact h2))
theorem Zq:J5 Tryz.prog 223 22 3 98 Tryz.f223 (fun k=>k) (iC Tryz.f223 iD):=by
 refine ⟨Tryz.func223,by kernel_rfl,by kernel_rfl,by kernel_rfl,by kernel_rfl,?_,wm,by kernel_rfl⟩
 constructor<;>first|exact ⟨by kernel_rfl,by kernel_rfl,by kernel_rfl⟩|kernel_rfl
theorem V0 {g:Nat→List MV→Option MV} (h:ap Tryz.prog cx g):ap Tryz.prog cx (bn 223 n9 g):=h.B2 (fun _=>rfl) (fun ms r hr=>by
 obtain ⟨xs,i,j,rfl,rfl,h1,h2⟩:=zA hr
 exact GP (P:=Tryz.prog) (c:=cx) (I:=jq 22) (E:=jq 98) Zq nW Zk (by kernel_rfl) Zm (by kernel_rfl) (by kernel_rfl) (by kernel_rfl) h1 h2)
theorem Zr:DB Tryz.prog 225 25 3 4 126 248 Tryz.f225 (fun k=>k) (iC Tryz.f225 iD) (H9 (iC Tryz.f225 iD)):=by
 refine ⟨Tryz.func225,by kernel_rfl,by kernel_rfl,by kernel_rfl,by kernel_rfl,?_,wm,by kernel_rfl⟩
 constructor<;>first|exact ⟨by kernel_rfl,by kernel_rfl,by kernel_rfl⟩|kernel_rfl
theorem acz: ∀args w,(callFunc 248 args).run Tryz.prog w=((Extern.SlicesOverlaps.overlaps #[25,25] #[4] args).run Tryz.prog w).andThen fun v w'=> .ok (.value v) w':=fun args w=>run_callFunc_extern Tryz.func248 (by kernel_rfl) (by kernel_rfl) (by kernel_rfl) (e:=Extern.SlicesOverlaps.overlaps #[25,25] #[4]) (by kernel_rfl) args w
theorem V1 {g:Nat→List MV→Option MV} (h:ap Tryz.prog cx g):ap Tryz.prog cx (bn 225 (jn 24) g):=h.B2 (fun _=>rfl) (fun ms r hr=>by
 obtain ⟨xs,ys,i,rfl,rfl,h1,h2,h3⟩:=ur hr
 exact AD (P:=Tryz.prog) (c:=cx) (I:=jq 25) (E:=jq 126) Zr nW Zl (by kernel_rfl) S4 (Nat.le_of_ble_eq_true (by kernel_rfl)) (by kernel_rfl) (by kernel_rfl) (by kernel_rfl) (by kernel_rfl) acz h1 h2 (by rw [show (jq 126).bytes=24 by kernel_rfl];exact h3))
theorem V2 {g:Nat→List MV→Option MV} (h:ap Tryz.prog cx g):ap Tryz.prog cx (bn 226 (fD 3 24) g):=h.B2 (fun _=>rfl) (fun ms r hr=>by
 obtain ⟨xs,rfl,rfl,h1,h2⟩:=rP hr
 exact zv (P:=Tryz.prog) (c:=cx) (f:=226) (fn:=Tryz.f226) (t:=25) (I:=jq 25) (E:=jq 126) (i0:=0) (i1:=1) (i2:=2) (i3:=3) (oA:=iC Tryz.f226 iD 0) (oB:=iC Tryz.f226 iD 1) (oC:=iC Tryz.f226 iD 2) (oD:=iC Tryz.f226 iD 3) (oE:=iC Tryz.f226 iD 4) (oF:=iC Tryz.f226 iD 5) (oG:=iC Tryz.f226 iD 6) (oH:=iC Tryz.f226 iD 7) nW Zl (by kernel_rfl) S4 (Nat.le_of_ble_eq_true (by kernel_rfl)) (by kernel_rfl) (by kernel_rfl) Tryz.func226 (by kernel_rfl) (by kernel_rfl) (by kernel_rfl) (by kernel_rfl)
  ⟨by kernel_rfl,by kernel_rfl,by kernel_rfl⟩ ⟨by kernel_rfl,by kernel_rfl,by kernel_rfl⟩ ⟨by kernel_rfl,by kernel_rfl,by kernel_rfl⟩ ⟨by kernel_rfl,by kernel_rfl,by kernel_rfl⟩ ⟨by kernel_rfl,by kernel_rfl,by kernel_rfl⟩ ⟨by kernel_rfl,by kernel_rfl,by kernel_rfl⟩ ⟨by kernel_rfl,by kernel_rfl,by kernel_rfl⟩ ⟨by kernel_rfl,by kernel_rfl,by kernel_rfl⟩ (by rw [show (jq 126).size=3 by kernel_rfl];exact h1) (by rw [show (jq 126).bytes=24 by kernel_rfl];exact h2))
theorem Zs:J5 Tryz.prog 227 25 3 126 Tryz.f227 (fun k=>k) (iC Tryz.f227 iD):=by
 refine ⟨Tryz.func227,by kernel_rfl,by kernel_rfl,by kernel_rfl,by kernel_rfl,?_,wm,by kernel_rfl⟩
 constructor<;>first|exact ⟨by kernel_rfl,by kernel_rfl,by kernel_rfl⟩|kernel_rfl
theorem V3 {g:Nat→List MV→Option MV} (h:ap Tryz.prog cx g):ap Tryz.prog cx (bn 227 n9 g):=h.B2 (fun _=>rfl) (fun ms r hr=>by
 obtain ⟨xs,i,j,rfl,rfl,h1,h2⟩:=zA hr
 exact GP (P:=Tryz.prog) (c:=cx) (I:=jq 25) (E:=jq 126) Zs nW Zl (by kernel_rfl) S4 (by kernel_rfl) (by kernel_rfl) (by kernel_rfl) h1 h2)
noncomputable def H61:Nat→List MV→Option MV:=bn 61 (fD 6 72) (fun _ _=>none)
theorem S5:ap Tryz.prog cx H61:=Zn (ap.none _ _)
noncomputable def H63:Nat→List MV→Option MV:=bn 63 (jn 72) H61
theorem S6:ap Tryz.prog cx H63:=Zo S5
noncomputable def acA:Nat→List MV→Option MV:=bn 116 (fD 3 32) H63
theorem Ps:ap Tryz.prog cx acA:=VX S6
noncomputable def acB:Nat→List MV→Option MV:=bn 194 wj acA
theorem Pt:ap Tryz.prog cx acB:=VU Ps
noncomputable def acC:Nat→List MV→Option MV:=bn 218 (jn 48) acB
theorem Pu:ap Tryz.prog cx acC:=VY Pt
noncomputable def acD:Nat→List MV→Option MV:=bn 219 (fD 4 48) acC
theorem Pv:ap Tryz.prog cx acD:=VZ Pu
noncomputable def acE:Nat→List MV→Option MV:=bn 223 n9 acD
theorem Pw:ap Tryz.prog cx acE:=V0 Pv
noncomputable def acF:Nat→List MV→Option MV:=bn 225 (jn 24) acE
theorem Px:ap Tryz.prog cx acF:=V1 Pw
noncomputable def acG:Nat→List MV→Option MV:=bn 226 (fD 3 24) acF
theorem Py:ap Tryz.prog cx acG:=V2 Px
noncomputable def acH:Nat→List MV→Option MV:=bn 227 n9 acG
theorem Pz:ap Tryz.prog cx acH:=V3 Py
noncomputable def acI:Nat→List MV→Option MV:=bn 235 DG acH
theorem PA:ap Tryz.prog cx acI:=VV Pz
noncomputable def acJ:Nat→List MV→Option MV:=bn 238 qu acI
theorem PB:ap Tryz.prog cx acJ:=VW PA
theorem FE {g:Nat→List MV→Option MV} (s:ap Tryz.prog cx g) (bS:List (List Kd)) (par:List (Nat×Nat)) (tn:Nat) (bs fl:List Nat) (fz ord:List (Nat×List Nat)) (IQ Hp Fe:List (Nat×qe)) (dyn:List Nat) {n:Nat} {fn:Func} {F:List MV→Option MV} (hf:Tryz.prog.funcs[n]? =some fn)
 (hh:J0 (VP g par tn bs fl fz ord IQ Hp Fe dyn) n fn bS=true) (hF: ∀{ms r},F ms=some r→Ga (VP g par tn bs fl fz ord IQ Hp Fe dyn) bS none fn ms=some r):ap Tryz.prog cx (bn n F g):=
 s.fn (c':=VP g par tn bs fl fz ord IQ Hp Fe dyn) ⟨rfl,rfl,rfl,rfl,rfl,rfl,rfl,rfl,rfl⟩ rfl nW SV SZ S3 wm Ip hf hh (fun _=>rfl) hF
theorem my {g:Nat→List MV→Option MV} (s:ap Tryz.prog cx g) (bS:List (List Kd)) (tn:Nat) (IQ Hp Fe:List (Nat×qe)) {n:Nat} {fn:Func} {F:List MV→Option MV} (hf:Tryz.prog.funcs[n]? =some fn)
 (hh:J0 (VP g [] tn [] [] [] [] IQ Hp Fe []) n fn bS=true) (hF: ∀{ms r},F ms=some r→Ga (VP g [] tn [] [] [] [] IQ Hp Fe []) bS none fn ms=some r):ap Tryz.prog cx (bn n F g):=FE s bS [] tn [] [] [] [] IQ Hp Fe [] hf hh hF
theorem La {g:Nat→List MV→Option MV} (s:ap Tryz.prog cx g) (pos:Nat) (ks:List LK) (bS:List (List Kd)) (par:List (Nat×Nat)) (tn:Nat) (bs fl:List Nat) (fz ord:List (Nat×List Nat)) (IQ Hp Fe:List (Nat×qe)) (dyn:List Nat) {n:Nat} {fn:Func} {F:List MV→Option MV} (hf:Tryz.prog.funcs[n]? =some fn) (hs:cx.sig n=some (pos,ks))
 (hh:NI (VP g par tn bs fl fz ord IQ Hp Fe dyn) n fn bS=true) (hF: ∀{ms r},F ms=some r→F9 (VP g par tn bs fl fz ord IQ Hp Fe dyn) bS pos ks fn ms=some r):ap Tryz.prog cx (bn n F g):=
 s.La nW SV SZ S3 wm Ip hf hs (fun _=>rfl) fun h=>⟨VP g par tn bs fl fz ord IQ Hp Fe dyn,⟨rfl,rfl,rfl,rfl,rfl,rfl,rfl,rfl,rfl⟩,rfl,hh,hF h⟩
abbrev PC (d:List MV→Option MV):List MV→Option MV:=fun ms=>match ms with|[.cell (.func off a0)]=>(match Nat.beq off 0 with|true=>d a0|false=>none)|_=>none
theorem qF {d:List MV→Option MV} {B:List MV→Option MV} (h: ∀a0,B [.cell (.func 0 a0)]=d a0) {ms:List MV} {r:MV} (e:PC d ms=some r):B ms=some r:=by
 unfold PC at e
 split at e
 ·rename_i off a0
  cases ho:Nat.beq off 0 with
  |true=>
   have:=Nat.eq_of_beq_eq_true ho
   subst this
   exact (h _).trans e
  |false=>rw [ho] at e;cases e
 ·cases e
abbrev cl2 (d:List MV→MV→Option MV):List MV→Option MV:=fun ms=>match ms with|[.cell (.func off a0),a1]=>(match Nat.beq off 0 with|true=>d a0 a1|false=>none)|_=>none
theorem S7 {d:List MV→MV→Option MV} {B:List MV→Option MV} (h: ∀a0 a1,B [.cell (.func 0 a0),a1]=d a0 a1) {ms:List MV} {r:MV} (e:cl2 d ms=some r):B ms=some r:=by
 unfold cl2 at e
 split at e
 ·rename_i off a0 a1
  cases ho:Nat.beq off 0 with
  |true=>
   have:=Nat.eq_of_beq_eq_true ho
   subst this
   exact (h _ _).trans e
  |false=>rw [ho] at e;cases e
 ·cases e
noncomputable def xk (lA:MV):Option MV:=
 gL lA fun Kh=>
 bd (Loop (fun iS=>
 gC iS fun m fV=>
 gI .i64 m fun i=>
 gN fV<|
 cB Kh fun len=>
 bp (decide (i<(len:Int))) (
 bd (
 bp (decide (i=30)) (
 some [.b true]) (
 idx Kh i fun y=>
 gA y fun cs=>
 kY .i64 .i64 .i64 .i64 .i64 .i64 cs fun Client Seq Kind Path Value Version Session Span=>
 bp (decide ((200:Int)<(Path.length:Int))) (
 some [.b true]) (
 idx Kh i fun y1=>
 gA y1 fun gu=>
 kY .i64 .i64 .i64 .i64 .i64 .i64 gu fun fI wo XH iT fm cm Ki zE=>
 some [.b (decide ((1100:Int)<(fm.length:Int)))]))) fun vs=>
 gC vs fun Zj Kj=>
 gB Zj fun x=>
 gN Kj<|
 bp x (
 some (.inr (1,[.b false]))) (
 some (.inl [.i .i64 (IntKind.wrap .i64 (i+1))]))) (
 some (.inr (2,[])))) [.i .i64 0]) fun p=>
 bp (Nat.beq p.1 2) (
 gN p.2<|
 some (.b true)) (
 dy (Nat.beq p.1 1)<|
 gC p.2 fun m18 S8=>
 gB m18 fun x1=>
 gN S8<|
 some (.b x1))
noncomputable def GW:Nat→List MV→Option MV:=bn 14 (te xk) acJ
theorem FF:ap Tryz.prog cx GW:=my PB [] 30 [(4,⟨[0,3],[],[],[(0,[(29,.sc (.k .b))])],[]⟩)] [] [(2,⟨[0],[],[(3,.sc (.k (.i .i64)))],[(1,[(2,.sc (.k .b))]),(2,[])],[]⟩)] Tryz.func14 (by kernel_rfl) (gd (fun _=>by kernel_rfl))
noncomputable def mb (o:MV):Option MV:=
 gA o fun cs=>
 kY .i64 .i64 .i64 .i64 .i64 .i64 cs fun Client Seq Kind Path Value Version Session Span=>
 bp (decide (Kind=1)) (
 some (.agg (eC Client Seq Kind Path Value 0 Session 0))) (
 bd (
 bp (decide (Kind=2)) (
 some (0,[.b (decide (Kind=2))])) (
 bd (
 bp (decide (Kind=5)) (
 some (0,[.b (decide (Kind=5))])) (
 bd (
 bp (decide (Kind=10)) (
 some (0,[.b (decide (Kind=10))])) (
 some (0,[.b (decide (Kind=11))]))) fun p2=>
 dy (Nat.beq p2.1 0)<|
 gC p2.2 fun m8 sC=>
 gB m8 fun x=>
 gN sC<|
 some (0,[.b x]))) fun p1=>
 dy (Nat.beq p1.1 0)<|
 gC p1.2 fun m9 Iq=>
 gB m9 fun x1=>
 gN Iq<|
 some (0,[.b x1]))) fun p=>
 dy (Nat.beq p.1 0)<|
 gC p.2 fun Pp tj=>
 gB Pp fun x2=>
 gN tj<|
 bp x2 (
 some (.agg (eC Client Seq Kind Path ([]:List UInt8) 0 0 0))) (
 bp (decide (Kind=3)) (
 some (.agg (eC Client Seq Kind Path Value Version 0 0))) (
 bp (decide (Kind=4)) (
 some (.agg (eC Client Seq Kind Path ([]:List UInt8) Version 0 0))) (
 bp (decide (Kind=6)) (
 some (.agg (eC Client Seq Kind ([]:List UInt8) ([]:List UInt8) 0 Session Span))) (
 bd (
 bp (decide (Kind=7)) (
 some (0,[.b (decide (Kind=7))])) (
 some (0,[.b (decide (Kind=8))]))) fun p3=>
 dy (Nat.beq p3.1 0)<|
 gC p3.2 fun Pq qG=>
 gB Pq fun x3=>
 gN qG<|
 bp x3 (
 some (.agg (eC Client Seq Kind ([]:List UInt8) ([]:List UInt8) 0 Session 0))) (
 bp (decide (Kind=9)) (
 some (.agg (eC Client Seq Kind ([]:List UInt8) ([]:List UInt8) 0 0 Span))) (
 some (.agg (eC Client Seq Kind ([]:List UInt8) ([]:List UInt8) 0 0 0)))))))))
noncomputable def u9:Nat→List MV→Option MV:=bn 81 (te mb) GW
theorem xD:ap Tryz.prog cx u9:=FE FF [] [] 62 [] [34,36,49] [(1,[1])] [(14,[0,1,2,3,4,5,6,7,8,9,10,11]),(17,[0,1,2,3,4,5,6,7])] [] [(12,⟨[1,2,3,12],[],[],[(0,[(26,.sc (.k .b))])],[]⟩),(7,⟨[1,2,3,12],[],[],[(0,[(15,.sc (.k .b))])],[]⟩),(6,⟨[1,2,3,12],[],[],[(0,[(15,.sc (.k .b))])],[]⟩),(5,⟨[1,2,3,12],[],[],[(0,[(15,.sc (.k .b))])],[]⟩)] [] [] Tryz.func81 (by kernel_rfl) (gd (fun _=>by kernel_rfl))
noncomputable def xl (o:MV):Option MV:=
 gA o fun cs=>
 kY .i64 .i64 .i64 .i64 .i64 .i64 cs fun Client Seq Kind Path Value Version Session Span=>
 bd (
 bp (decide ((0:Int)≤Client)) (
 bp (decide (Client≤1000)) (
 bp (decide ((1:Int)≤Seq)) (
 some [.b (decide (Seq≤1000000000))]) (
 some [.b false])) (
 some [.b false])) (
 some [.b false])) fun vs=>
 gC vs fun m8 sC=>
 gB m8 fun who=>
 gN sC<|
 bd (
 bp who (
 bp (decide ((0:Int)≤Kind)) (
 bp (decide (Kind≤11)) (
 bp (decide ((Path.length:Int)≤100)) (
 bp (decide ((Value.length:Int)≤1000)) (
 bd (mb (.agg (eC Client Seq Kind Path Value Version Session Span))) fun rA=>
 gA rA fun gu=>
 kY .i64 .i64 .i64 .i64 .i64 .i64 gu fun fI wo XH iT fm cm Ki zE=>
 some [.b ((decide (Client=fI))&&((decide (Seq=wo))&&((decide (Kind=XH))&&((decide (Path=iT))&&((decide (Value=fm))&&((decide (Version=cm))&&((decide (Session=Ki))&&(decide (Span=zE)))))))))]) (
 some [.b false])) (
 some [.b false])) (
 some [.b false])) (
 some [.b false])) (
 some [.b false])) fun kO=>
 gC kO fun Zj S9=>
 gB Zj fun x=>
 gN S9<|
 some (.b x)
noncomputable def GX:Nat→List MV→Option MV:=bn 35 (te xl) u9
theorem FG:ap Tryz.prog cx GX:=FE xD [] [] 51 [] [] [] [(2,[0,1,2,3,4,5,6,7,8,9,10,11,12,13,14,15,16,17,18,19,20,21,22,23,24,25,26,27,28,29])] [(2,⟨[1,3],[],[],[(0,[(2,.sc (.k .b))])],[]⟩),(1,⟨[1],[],[],[(0,[(3,.sc (.k .b))])],[]⟩)] [] [] [] Tryz.func35 (by kernel_rfl) (gd (fun _=>by kernel_rfl))
noncomputable def ng (x:MV):Option MV:=
 gI .i64 x fun x1=>
 some (.b (!decide (x1=x1)))
noncomputable def zF:Nat→List MV→Option MV:=bn 183 (te ng) GX
theorem AH:ap Tryz.prog cx zF:=my FG [] 6 [] [] [] Tryz.func183 (by kernel_rfl) (gd (fun _=>by kernel_rfl))
noncomputable def kE (x y:MV):Option MV:=
 gI .i64 x fun x1=>
 gI .i64 y fun y1=>
 bd (ng (.i .i64 x1)) fun rA=>
 gB rA fun x2=>
 bd (ng (.i .i64 y1)) fun aV=>
 gB aV fun x3=>
 bp x2 (
 bp x3 (
 some (.i .i64 0)) (
 some (.i .i64 (-1)))) (
 bp x3 (
 some (.i .i64 1)) (
 bp (decide (x1<y1)) (
 some (.i .i64 (-1))) (
 bp (decide (y1<x1)) (
 some (.i .i64 1)) (
 some (.i .i64 0)))))
noncomputable def wu:Nat→List MV→Option MV:=bn 121 (fh kE) zF
theorem yG:ap Tryz.prog cx wu:=my AH [] 20 [] [] [] Tryz.func121 (by kernel_rfl) (bu (fun _ _=>by kernel_rfl))
noncomputable def jr (x ey:MV):Option MV:=
 gA x fun cs=>
 fH .i64 .i64 .i64 .i64 cs fun Client Seq E Value Version Names=>
 gI .i64 ey fun zG=>
 bd (kE (.i .i64 Client) (.i .i64 zG)) fun rA=>
 gI .i64 rA fun x1=>
 some (.i .i64 x1)
noncomputable def mz:Nat→List MV→Option MV:=bn 120 (fh jr) wu
theorem uv:ap Tryz.prog cx mz:=my yG [] 9 [] [] [] Tryz.func120 (by kernel_rfl) (bu (fun _ _=>by kernel_rfl))
noncomputable def b9:Nat→List MV→Option MV:=mz
theorem fp (x0 x1:MV):b9 120 [x0,x1]=jr x0 x1:=by kernel_rfl
noncomputable def cq (x target cmp:MV):Option MV:=
 gL x fun x1=>
 gI .i64 target fun rS=>
 gR cmp fun Kk=>
 cB x1 fun len=>
 bd (Loop (fun iS=>
 Kg .i64 .i64 iS fun i j=>
 bp (decide (i<j)) (
 dy (decide ((0:Int)≤1))<|
 idx x1 (IntKind.wrap .i64 (Int.fdiv (IntKind.wrap .u64 (IntKind.wrap .i64 (i+j))) (2^min (Int.toNat 1) (IntKind.bits .u64)))) fun y=>
 gA y fun cs=>
 fH .i64 .i64 .i64 .i64 cs fun Client Seq E Value Version Names=>
 K3 Kk fun fn cap=>
 dy (!gv fn)<|
 bd (b9 fn ([.agg (j0 Client Seq E Value Version Names),.i .i64 rS]++cap)) fun rA=>
 gI .i64 rA fun x2=>
 bd (
 bp (decide (x2<0)) (
 some (0,[.i .i64 (IntKind.wrap .i64 ((IntKind.wrap .i64 (Int.fdiv (IntKind.wrap .u64 (IntKind.wrap .i64 (i+j))) (2^min (Int.toNat 1) (IntKind.bits .u64))))+1)),.i .i64 j])) (
 some (0,[.i .i64 i,.i .i64 (IntKind.wrap .i64 (Int.fdiv (IntKind.wrap .u64 (IntKind.wrap .i64 (i+j))) (2^min (Int.toNat 1) (IntKind.bits .u64))))]))) fun p1=>
 dy (Nat.beq p1.1 0)<|
 Kg .i64 .i64 p1.2 fun i1 j1=>
 some (.inl [.i .i64 i1,.i .i64 j1])) (
 some (.inr (2,[.i .i64 i])))) [.i .i64 0,.i .i64 (len:Int)]) fun p=>
 dy (Nat.beq p.1 2)<|
 gC p.2 fun Pp qG=>
 gI .i64 Pp fun i2=>
 gN qG<|
 bd (
 bp (decide (i2<(len:Int))) (
 idx x1 i2 fun y1=>
 gA y1 fun gu=>
 fH .i64 .i64 .i64 .i64 gu fun fI wo E1 fm cm yH=>
 K3 Kk fun wv oQ=>
 dy (!gv wv)<|
 bd (b9 wv ([.agg (j0 fI wo E1 fm cm yH),.i .i64 rS]++oQ)) fun aV=>
 gI .i64 aV fun x3=>
 some [.i .i64 i2,.b (decide (x3=0))]) (
 some [.i .i64 i2,.b false])) fun vs=>
 Mk .i64 vs fun x4 x5=>
 some (.cH [.i .i64 x4,.b x5])
noncomputable def fw:Nat→List MV→Option MV:=bn 119 (Fw cq) mz
theorem jT:ap Tryz.prog cx fw:=my uv [] 49 [(8,⟨[0,1,2,8,9],[],[],[(0,[(6,.sc (.k (.i .i64))),(7,.sc (.k .b))])],[]⟩)] [(6,⟨[0,1,2,8,11],[],[],[(0,[(9,.sc (.k (.i .i64))),(10,.sc (.k (.i .i64)))])],[]⟩)] [(3,⟨[0,1,2,8],[],[(9,.sc (.k (.i .i64))),(10,.sc (.k (.i .i64)))],[(2,[(9,.sc (.k (.i .i64)))])],[]⟩)] Tryz.func119 (by kernel_rfl) (rQ (fun _ _ _=>by kernel_rfl))
noncomputable def iU (rA ey:MV):Option MV:=
 gA rA fun cs=>
 nX .i64 cs fun kF gY oR kG Seen=>
 gI .i64 ey fun zG=>
 bd (cq (.list Seen) (.i .i64 zG) (.func 120 [])) fun aV=>
 gT aV fun vs=>
 Mk .i64 vs fun x x1=>
 some (.cH [.i .i64 x,.b x1])
noncomputable def tk:Nat→List MV→Option MV:=bn 62 (fh iU) fw
theorem wz:ap Tryz.prog cx tk:=my jT [] 12 [] [] [] Tryz.func62 (by kernel_rfl) (bu (fun _ _=>by kernel_rfl))
noncomputable def qH (rA ey:MV):Option MV:=
 gA rA fun cs=>
 nX .i64 cs fun kF gY oR kG Seen=>
 gI .i64 ey fun zG=>
 bd (iU (.agg (lC kF gY oR kG Seen)) (.i .i64 zG)) fun aV=>
 gT aV fun vs=>
 Mk .i64 vs fun x x1=>
 bp (!x1) (
 some (.cH [.agg (j0 0 0 0 ([]:List UInt8) 0 ([]:List MV)),.b false])) (
 idx Seen x fun y=>
 gA y fun gu=>
 fH .i64 .i64 .i64 .i64 gu fun Client Seq E Value Version Names=>
 some (.cH [.agg (j0 Client Seq E Value Version Names),.b true]))
noncomputable def DR:Nat→List MV→Option MV:=bn 36 (fh qH) tk
theorem DS:ap Tryz.prog cx DR:=my wz [] 22 [] [] [] Tryz.func36 (by kernel_rfl) (bu (fun _ _=>by kernel_rfl))
noncomputable def kZ (rA o:MV):Option MV:=
 gA rA fun cs=>
 nX .i64 cs fun kF gY oR kG Seen=>
 gA o fun gu=>
 kY .i64 .i64 .i64 .i64 .i64 .i64 gu fun Client Seq Kind Path Value Version Session Span=>
 bd (qH (.agg (lC kF gY oR kG Seen)) (.i .i64 Client)) fun aV=>
 gT aV fun vs=>
 gC vs fun VO DT=>
 gA VO fun tL=>
 fH .i64 .i64 .i64 .i64 tL fun fI wo E fm cm Names=>
 gC DT fun B5 iV=>
 gB B5 fun x=>
 gN iV<|
 bd (xl (.agg (eC Client Seq Kind Path Value Version Session Span))) fun cP=>
 gB cP fun x1=>
 bd (
 bp (!x1) (
 some (0,[.i .i64 0,.i .i64 0,.i .i64 0,.s ([]:List UInt8),.i .i64 0,.list ([]:List MV),.i .i64 Client,.i .i64 Seq,.i .i64 1,.s ([]:List UInt8),.i .i64 0,.list ([]:List MV)])) (
 bd (
 bp x (
 some [.b (decide (wo=Seq))]) (
 some [.b false])) fun kO=>
 gC kO fun PD tl=>
 gB PD fun x2=>
 gN tl<|
 bp x2 (
 some (1,[.i .i64 fI,.i .i64 wo,.i .i64 E,.s fm,.i .i64 cm,.list Names,.b true])) (
 bd (
 bp x (
 some [.b (decide (Seq<wo))]) (
 some [.b false])) fun rf=>
 gC rf fun Ta wA=>
 gB Ta fun x3=>
 gN wA<|
 bd (
 bp x3 (
 some (0,[.i .i64 0,.i .i64 0,.i .i64 0,.s ([]:List UInt8),.i .i64 0,.list ([]:List MV),.i .i64 Client,.i .i64 Seq,.i .i64 15,.s ([]:List UInt8),.i .i64 0,.list ([]:List MV)])) (
 bd (
 bp (!x) (
 cB Seen fun len=>
 some [.b (decide ((50:Int)≤(len:Int)))]) (
 some [.b false])) fun vs3=>
 gC vs3 fun PE tm=>
 gB PE fun x4=>
 gN tm<|
 bp x4 (
 some (0,[.i .i64 0,.i .i64 0,.i .i64 0,.s ([]:List UInt8),.i .i64 0,.list ([]:List MV),.i .i64 Client,.i .i64 Seq,.i .i64 9,.s ([]:List UInt8),.i .i64 0,.list ([]:List MV)])) (
 some (1,[.i .i64 Client,.i .i64 Seq,.i .i64 0,.s ([]:List UInt8),.i .i64 0,.list ([]:List MV),.b false])))) fun p1=>
 bp (Nat.beq p1.1 0) (
 gC p1.2 fun m24 Kl=>
 gI .i64 m24 fun x5=>
 gC Kl fun V4 DU=>
 gI .i64 V4 fun x6=>
 gC DU fun m26 Km=>
 gI .i64 m26 fun x7=>
 gC Km fun m27 acK=>
 gS m27 fun x8=>
 gC acK fun m28 acL=>
 gI .i64 m28 fun x9=>
 gC acL fun m29 acM=>
 gL m29 fun B4=>
 fH .i64 .i64 .i64 .i64 acM fun DM DN DO DP DQ Fz=>
 some (0,[.i .i64 x5,.i .i64 x6,.i .i64 x7,.s x8,.i .i64 x9,.list B4,.i .i64 DM,.i .i64 DN,.i .i64 DO,.s DP,.i .i64 DQ,.list Fz])) (
 dy (Nat.beq p1.1 1)<|
 gC p1.2 fun m36 acN=>
 gI .i64 m36 fun FA=>
 gC acN fun m37 acO=>
 gI .i64 m37 fun FB=>
 gC acO fun m38 acP=>
 gI .i64 m38 fun FC=>
 gC acP fun m39 acQ=>
 gS m39 fun NZ=>
 gC acQ fun m40 Kn=>
 gI .i64 m40 fun Qx=>
 gC Kn fun m41 DV=>
 gL m41 fun XI=>
 gC DV fun m42 Ko=>
 gB m42 fun Zt=>
 gN Ko<|
 some (1,[.i .i64 FA,.i .i64 FB,.i .i64 FC,.s NZ,.i .i64 Qx,.list XI,.b Zt]))))) fun p=>
 bp (Nat.beq p.1 0) (
 gC p.2 fun m43 Kp=>
 gI .i64 m43 fun Zu=>
 gC Kp fun m44 acU=>
 gI .i64 m44 fun x25=>
 gC acU fun m45 acV=>
 gI .i64 m45 fun x26=>
 gC acV fun m46 acW=>
 gS m46 fun x27=>
 gC acW fun m47 acX=>
 gI .i64 m47 fun x28=>
 gC acX fun m48 Tb=>
 gL m48 fun x29=>
 fH .i64 .i64 .i64 .i64 Tb fun x30 x31 x32 x33 x34 x35=>
 some (.cH [.agg (j0 x30 x31 x32 x33 x34 x35),.b true])) (
 dy (Nat.beq p.1 1)<|
 gC p.2 fun m55 ac4=>
 gI .i64 m55 fun x36=>
 gC ac4 fun m56 ac6=>
 gI .i64 m56 fun x37=>
 gC ac6 fun m57 ac8=>
 gI .i64 m57 fun x38=>
 gC ac8 fun m58 ada=>
 gS m58 fun x39=>
 gC ada fun m59 ade=>
 gI .i64 m59 fun x40=>
 gC ade fun m60 adg=>
 gL m60 fun x41=>
 gC adg fun m61 adh=>
 gB m61 fun x42=>
 gN adh<|
 some (.cH [.agg (j0 x36 x37 x38 x39 x40 x41),.b x42]))
noncomputable def tp:Nat→List MV→Option MV:=bn 58 (fh kZ) DR
theorem wB:ap Tryz.prog cx tp:=my DS [] 58 [(10,⟨[2,4,6,8],[],[],[(0,[(47,.sc (.k .b))])],[]⟩),(8,⟨[2,3,4,6,7,8],[],[],[(0,[(37,.sc (.k .b))])],[]⟩),(6,⟨[2,3,4,6,7,8],[],[],[(0,[(27,.sc (.k .b))])],[]⟩)] [(9,⟨[2,8],[],[],[(0,[(4,.box [.k (.i .i64),.k (.i .i64),.k (.i .i64),.k .s,.k (.i .i64),.k .l]),(6,.box [.k (.i .i64),.k (.i .i64),.k (.i .i64),.k .s,.k (.i .i64),.k .l])]),(1,[(4,.box [.k (.i .i64),.k (.i .i64),.k (.i .i64),.k .s,.k (.i .i64),.k .l]),(5,.sc (.k .b))])],[]⟩),(5,⟨[2,3,7,8],[],[],[(0,[(4,.box [.k (.i .i64),.k (.i .i64),.k (.i .i64),.k .s,.k (.i .i64),.k .l]),(6,.box [.k (.i .i64),.k (.i .i64),.k (.i .i64),.k .s,.k (.i .i64),.k .l])]),(1,[(4,.box [.k (.i .i64),.k (.i .i64),.k (.i .i64),.k .s,.k (.i .i64),.k .l]),(5,.sc (.k .b))])],[]⟩)] [] Tryz.func58 (by kernel_rfl) (bu (fun _ _=>by kernel_rfl))
noncomputable def jt (w:List MV):Option MV:=
 ax .i64 .i64 .i64 .i64 .i64 .i64 .i64 .i64 .i64 .i64 .i64 w fun ch bT dx cE gq cr lN fA dN df bO bB fc cj lc xE dm bU dn lA=>
 some (.dL (.cH []) (ao ch bT dx cE gq cr lN fA dN df bO bB fc cj lc xE dm bU dn lA))
noncomputable def qI:Nat→List MV→Option MV:=bn 105 (PC jt) tp
theorem uw:ap Tryz.prog cx qI:=La wB 0 jf [] [(0,1000000)] 2 [] [] [] [] [] [] [] [] Tryz.func105 (by kernel_rfl) (by kernel_rfl) (qF fun _=>by kernel_rfl)
noncomputable def j6 (x id:MV):Option MV:=
 gA x fun cs=>
 B3 .i64 .i64 .i64 cs fun Id Span gz=>
 gI .i64 id fun Lc=>
 bd (kE (.i .i64 Id) (.i .i64 Lc)) fun rA=>
 gI .i64 rA fun x1=>
 some (.i .i64 x1)
noncomputable def nh:Nat→List MV→Option MV:=bn 144 (fh j6) qI
theorem vu:ap Tryz.prog cx nh:=my uw [] 9 [] [] [] Tryz.func144 (by kernel_rfl) (bu (fun _ _=>by kernel_rfl))
noncomputable def bY:Nat→List MV→Option MV:=nh
theorem e9 (x0 x1:MV):bY 144 [x0,x1]=j6 x0 x1:=by kernel_rfl
noncomputable def ca (x target cmp:MV):Option MV:=
 gL x fun x1=>
 gI .i64 target fun rS=>
 gR cmp fun Kk=>
 cB x1 fun len=>
 bd (Loop (fun iS=>
 Kg .i64 .i64 iS fun i j=>
 bp (decide (i<j)) (
 dy (decide ((0:Int)≤1))<|
 idx x1 (IntKind.wrap .i64 (Int.fdiv (IntKind.wrap .u64 (IntKind.wrap .i64 (i+j))) (2^min (Int.toNat 1) (IntKind.bits .u64)))) fun y=>
 gA y fun cs=>
 B3 .i64 .i64 .i64 cs fun Id Span gz=>
 K3 Kk fun fn cap=>
 dy (!gv fn)<|
 bd (bY fn ([.agg [.i .i64 Id,.i .i64 Span,.i .i64 gz],.i .i64 rS]++cap)) fun rA=>
 gI .i64 rA fun x2=>
 bd (
 bp (decide (x2<0)) (
 some (0,[.i .i64 (IntKind.wrap .i64 ((IntKind.wrap .i64 (Int.fdiv (IntKind.wrap .u64 (IntKind.wrap .i64 (i+j))) (2^min (Int.toNat 1) (IntKind.bits .u64))))+1)),.i .i64 j])) (
 some (0,[.i .i64 i,.i .i64 (IntKind.wrap .i64 (Int.fdiv (IntKind.wrap .u64 (IntKind.wrap .i64 (i+j))) (2^min (Int.toNat 1) (IntKind.bits .u64))))]))) fun p1=>
 dy (Nat.beq p1.1 0)<|
 Kg .i64 .i64 p1.2 fun i1 j1=>
 some (.inl [.i .i64 i1,.i .i64 j1])) (
 some (.inr (2,[.i .i64 i])))) [.i .i64 0,.i .i64 (len:Int)]) fun p=>
 dy (Nat.beq p.1 2)<|
 gC p.2 fun m7 sC=>
 gI .i64 m7 fun i2=>
 gN sC<|
 bd (
 bp (decide (i2<(len:Int))) (
 idx x1 i2 fun y1=>
 gA y1 fun gu=>
 B3 .i64 .i64 .i64 gu fun Zv zE DW=>
 K3 Kk fun wv oQ=>
 dy (!gv wv)<|
 bd (bY wv ([.agg [.i .i64 Zv,.i .i64 zE,.i .i64 DW],.i .i64 rS]++oQ)) fun aV=>
 gI .i64 aV fun x3=>
 some [.i .i64 i2,.b (decide (x3=0))]) (
 some [.i .i64 i2,.b false])) fun vs=>
 Mk .i64 vs fun x4 x5=>
 some (.cH [.i .i64 x4,.b x5])
noncomputable def eV:Nat→List MV→Option MV:=bn 143 (Fw ca) nh
theorem ju:ap Tryz.prog cx eV:=my vu [] 49 [(8,⟨[0,1,2,8,9],[],[],[(0,[(6,.sc (.k (.i .i64))),(7,.sc (.k .b))])],[]⟩)] [(6,⟨[0,1,2,8,11],[],[],[(0,[(9,.sc (.k (.i .i64))),(10,.sc (.k (.i .i64)))])],[]⟩)] [(3,⟨[0,1,2,8],[],[(9,.sc (.k (.i .i64))),(10,.sc (.k (.i .i64)))],[(2,[(9,.sc (.k (.i .i64)))])],[]⟩)] Tryz.func143 (by kernel_rfl) (rQ (fun _ _ _=>by kernel_rfl))
noncomputable def fq (b id:MV):Option MV:=
 gA b fun cs=>
 Lb .i64 cs fun fE L=>
 gI .i64 id fun Lc=>
 bd (ca (.list L) (.i .i64 Lc) (.func 144 [])) fun rA=>
 gT rA fun vs=>
 Mk .i64 vs fun x x1=>
 some (.cH [.i .i64 x,.b x1])
noncomputable def vc:Nat→List MV→Option MV:=bn 82 (fh fq) eV
theorem xF:ap Tryz.prog cx vc:=my ju [] 12 [] [] [] Tryz.func82 (by kernel_rfl) (bu (fun _ _=>by kernel_rfl))
noncomputable def tq (b id:MV):Option MV:=
 gA b fun cs=>
 Lb .i64 cs fun fE L=>
 gI .i64 id fun Lc=>
 bd (fq (.agg [.i .i64 fE,.list L]) (.i .i64 Lc)) fun rA=>
 gT rA fun vs=>
 Mk .i64 vs fun x x1=>
 some (.b x1)
noncomputable def GY:Nat→List MV→Option MV:=bn 37 (fh tq) vc
theorem FH:ap Tryz.prog cx GY:=my xF [] 14 [] [] [] Tryz.func37 (by kernel_rfl) (bu (fun _ _=>by kernel_rfl))
noncomputable def gk (sA cT:MV):Option MV:=
 gS sA fun pH=>
 gS cT fun jL=>
 bd (
 bp (decide ((jL.length:Int)≤(pH.length:Int))) (
 dy (decide ((0:Int)≤0∧(0:Int)≤(jL.length:Int)∧(jL.length:Int)≤(pH.length:Int)))<|
 some [.b (decide ((List.drop (Int.toNat 0) (List.take (Int.toNat (jL.length:Int)) pH))=jL))]) (
 some [.b false])) fun vs=>
 gC vs fun m iS=>
 gB m fun x=>
 gN iS<|
 some (.b x)
noncomputable def nE:Nat→List MV→Option MV:=bn 251 (fh gk) GY
theorem rj:ap Tryz.prog cx nE:=my FH [] 18 [(1,⟨[0,1],[],[],[(0,[(4,.sc (.k .b))])],[]⟩)] [] [] Tryz.func251 (by kernel_rfl) (bu (fun _ _=>by kernel_rfl))
noncomputable def gl (sA cT:MV):Option MV:=
 gS sA fun pH=>
 gS cT fun jL=>
 bd (gk (.s pH) (.s jL)) fun rA=>
 gB rA fun x=>
 bp (!x) (
 some (.cH [.s pH,.b false])) (
 dy (decide ((0:Int)≤(jL.length:Int)∧(jL.length:Int)≤(pH.length:Int)∧(pH.length:Int)≤(pH.length:Int)))<|
 some (.cH [.s (List.drop (Int.toNat (jL.length:Int)) (List.take (Int.toNat (pH.length:Int)) pH)),.b true]))
noncomputable def nF:Nat→List MV→Option MV:=bn 232 (fh gl) nE
theorem rk:ap Tryz.prog cx nF:=my rj [] 15 [] [] [] Tryz.func232 (by kernel_rfl) (bu (fun _ _=>by kernel_rfl))
noncomputable def j7 (sA cT:MV):Option MV:=
 gS sA fun pH=>
 gS cT fun jL=>
 bd (gl (.s pH) (.s jL)) fun rA=>
 gT rA fun vs=>
 gC vs fun m iS=>
 gS m fun x=>
 gC iS fun m1 fV=>
 gB m1 fun x1=>
 gN fV<|
 some (.cH [.s x,.b x1])
noncomputable def rT:Nat→List MV→Option MV:=bn 193 (fh j7) nF
theorem vv:ap Tryz.prog cx rT:=my rk [] 11 [] [] [] Tryz.func193 (by kernel_rfl) (bu (fun _ _=>by kernel_rfl))
noncomputable def oc (c:MV):Option MV:=
 gI .i32 c fun c1=>
 bd (qu [.s ([97,98,99,100,101,102,103,104,105,106,107,108,109,110,111,112,113,114,115,116,117,118,119,120,121,122,48,49,50,51,52,53,54,55,56,57,45,95]:List UInt8),.i .i32 c1]) fun rA=>
 gB rA fun x=>
 some (.b (!x))
noncomputable def sD:Nat→List MV→Option MV:=bn 237 (te oc) rT
theorem zH:ap Tryz.prog cx sD:=my vv [] 6 [] [] [] Tryz.func237 (by kernel_rfl) (gd (fun _=>by kernel_rfl))
noncomputable def gZ:Nat→List MV→Option MV:=sD
theorem pj (x0:MV):gZ 237 [x0]=oc x0:=by kernel_rfl
noncomputable def mc (sA f BB:MV):Option MV:=
 gS sA fun pH=>
 gR f fun f1=>
 gB BB fun Zx=>
 bd (Loop (fun iS=>
 gC iS fun m fV=>
 gL m fun es=>
 gN fV<|
 bp (Fg es) (
 K3 f1 fun fn cap=>
 dy (!gv fn)<|
 bd (gZ fn ([.i .i32 (vO es)]++cap)) fun rA=>
 gB rA fun x=>
 bp (decide (x=Zx)) (
 some (.inr (1,[.i .i64 (pD es)]))) (
 some (.inl [.list (yr es)]))) (
 some (.inr (2,[])))) [.list ([.s pH,.i .i64 0]:List MV)]) fun p=>
 bp (Nat.beq p.1 2) (
 gN p.2<|
 some (.i .i64 (-1))) (
 dy (Nat.beq p.1 1)<|
 gC p.2 fun m1 ni=>
 gI .i64 m1 fun x1=>
 gN ni<|
 some (.i .i64 x1))
noncomputable def vd:Nat→List MV→Option MV:=bn 275 (Fw mc) sD
theorem xG:ap Tryz.prog cx vd:=my zH [] 21 [] [] [(2,⟨[1,2],[],[(10,.mp ⟨true,[],true⟩)],[(1,[(6,.sc (.k (.i .i64)))]),(2,[])],[]⟩)] Tryz.func275 (by kernel_rfl) (rQ (fun _ _ _=>by kernel_rfl))
noncomputable def j8 (sA f:MV):Option MV:=
 gS sA fun pH=>
 gR f fun f1=>
 bd (mc (.s pH) f1 (.b true)) fun rA=>
 gI .i64 rA fun x=>
 some (.i .i64 x)
noncomputable def rU:Nat→List MV→Option MV:=bn 262 (fh j8) vd
theorem vw:ap Tryz.prog cx rU:=my xG [] 8 [] [] [] Tryz.func262 (by kernel_rfl) (bu (fun _ _=>by kernel_rfl))
noncomputable def hU (sA f:MV):Option MV:=
 gS sA fun pH=>
 gR f fun f1=>
 bd (j8 (.s pH) f1) fun rA=>
 gI .i64 rA fun x=>
 some (.b (decide ((0:Int)≤x)))
noncomputable def oS:Nat→List MV→Option MV:=bn 236 (fh hU) rU
theorem sE:ap Tryz.prog cx oS:=my vw [] 9 [] [] [] Tryz.func236 (by kernel_rfl) (bu (fun _ _=>by kernel_rfl))
noncomputable def rV (sA:MV):Option MV:=
 gS sA fun pH=>
 bd (
 bp (!decide (pH=([]:List UInt8))) (
 bp (decide ((pH.length:Int)≤30)) (
 bd (DG [.s pH,.s ([97,98,99,100,101,102,103,104,105,106,107,108,109,110,111,112,113,114,115,116,117,118,119,120,121,122,48,49,50,51,52,53,54,55,56,57,45,95]:List UInt8)]) fun rA=>
 gS rA fun x=>
 bp (decide (x=([]:List UInt8))) (
 bd (hU (.s pH) (.func 237 [])) fun aV=>
 gB aV fun x1=>
 some [.b (!x1)]) (
 some [.b false])) (
 some [.b false])) (
 some [.b false])) fun vs=>
 gC vs fun m iS=>
 gB m fun x2=>
 gN iS<|
 some (.b x2)
noncomputable def BF:Nat→List MV→Option MV:=bn 197 (te rV) oS
theorem B6:ap Tryz.prog cx BF:=my sE [] 20 [(1,⟨[0],[],[],[(0,[(2,.sc (.k .b))])],[]⟩)] [] [] Tryz.func197 (by kernel_rfl) (gd (fun _=>by kernel_rfl))
noncomputable def pS (sA:MV):Option MV:=
 gS sA fun pH=>
 bd (rV (.s pH)) fun rA=>
 gB rA fun x=>
 some (.b (!x))
noncomputable def ux:Nat→List MV→Option MV:=bn 196 (te pS) BF
theorem AJ:ap Tryz.prog cx ux:=my B6 [] 6 [] [] [] Tryz.func196 (by kernel_rfl) (gd (fun _=>by kernel_rfl))
noncomputable def eI:Nat→List MV→Option MV:=ux
theorem mA (x0:MV):eI 196 [x0]=pS x0:=by kernel_rfl
noncomputable def fJ (sA f:MV):Option MV:=
 gL sA fun pH=>
 gR f fun f1=>
 cB pH fun len=>
 bd (Loop (fun iS=>
 gC iS fun m fV=>
 gI .i64 m fun x=>
 gN fV<|
 bp (decide (x<(len:Int))) (
 idx pH x fun y=>
 gS y fun x1=>
 K3 f1 fun fn cap=>
 dy (!gv fn)<|
 bd (eI fn ([.s x1]++cap)) fun rA=>
 gB rA fun x2=>
 bp x2 (
 some (.inr (1,[.i .i64 x]))) (
 some (.inl [.i .i64 (IntKind.wrap .i64 (x+1))]))) (
 some (.inr (2,[])))) [.i .i64 0]) fun p=>
 bp (Nat.beq p.1 2) (
 gN p.2<|
 some (.i .i64 (-1))) (
 dy (Nat.beq p.1 1)<|
 gC p.2 fun m1 ni=>
 gI .i64 m1 fun x3=>
 gN ni<|
 some (.i .i64 x3))
noncomputable def nj:Nat→List MV→Option MV:=bn 234 (fh fJ) ux
theorem qJ:ap Tryz.prog cx nj:=my AJ [] 19 [] [] [(2,⟨[0,1,7],[],[(8,.sc (.k (.i .i64)))],[(1,[(4,.sc (.k (.i .i64)))]),(2,[])],[]⟩)] Tryz.func234 (by kernel_rfl) (bu (fun _ _=>by kernel_rfl))
noncomputable def ec (sA f:MV):Option MV:=
 gL sA fun pH=>
 gR f fun f1=>
 bd (fJ (.list pH) f1) fun rA=>
 gI .i64 rA fun x=>
 some (.b (decide ((0:Int)≤x)))
noncomputable def lm:Nat→List MV→Option MV:=bn 195 (fh ec) nj
theorem oT:ap Tryz.prog cx lm:=my qJ [] 9 [] [] [] Tryz.func195 (by kernel_rfl) (bu (fun _ _=>by kernel_rfl))
noncomputable def jv (p:MV):Option MV:=
 gS p fun p1=>
 bd (j7 (.s p1) (.s ([47]:List UInt8))) fun rA=>
 gT rA fun vs=>
 gC vs fun m iS=>
 gS m fun x=>
 gC iS fun m1 fV=>
 gB m1 fun x1=>
 gN fV<|
 bd (
 bp (!x1) (
 some [.b true]) (
 some [.b (decide ((100:Int)<(p1.length:Int)))])) fun kO=>
 gC kO fun m2 ni=>
 gB m2 fun x2=>
 gN ni<|
 bp x2 (
 some (.cH [.list ([]:List MV),.b false])) (
 bp (decide (x=([]:List UInt8))) (
 some (.cH [.list ([]:List MV),.b true])) (
 bd (wj [.s x,.s ([47]:List UInt8)]) fun aV=>
 gF aV fun xs=>
 bd (
 cB xs fun len=>
 bp (decide ((len:Int)≤8)) (
 bd (ec (.list xs) (.func 196 [])) fun cP=>
 gB cP fun x3=>
 some [.list xs,.b (!x3),.list xs]) (
 some [.list xs,.b false,.list xs])) fun rf=>
 gC rf fun m3 pk=>
 gL m3 fun Ir=>
 gC pk fun m4 nk=>
 gB m4 fun x4=>
 gC nk fun m5 pn=>
 gL m5 fun lA=>
 gN pn<|
 some (.cH [.list lA,.b x4])))
noncomputable def DX:Nat→List MV→Option MV:=bn 137 (te jv) lm
theorem DY:ap Tryz.prog cx DX:=my oT [] 34 [(7,⟨[],[],[],[(0,[(2,.sc (.own 24 9 true)),(3,.sc (.k .b)),(6,.sc (.own 24 9 true))])],[24]⟩),(2,⟨[0,4,5],[],[],[(0,[(12,.sc (.k .b))])],[24]⟩)] [] [] Tryz.func137 (by kernel_rfl) (gd (fun _=>by kernel_rfl))
noncomputable def jM (x:MV):Option MV:=
 gS x fun x1=>
 some (.b (!decide (x1=x1)))
noncomputable def ve:Nat→List MV→Option MV:=bn 264 (te jM) DX
theorem xH:ap Tryz.prog cx ve:=my DY [] 6 [] [] [] Tryz.func264 (by kernel_rfl) (gd (fun _=>by kernel_rfl))
noncomputable def j9 (x y:MV):Option MV:=
 gS x fun x1=>
 gS y fun y1=>
 bd (jM (.s x1)) fun rA=>
 gB rA fun x2=>
 bd (jM (.s y1)) fun aV=>
 gB aV fun x3=>
 bp x2 (
 bp x3 (
 some (.i .i64 0)) (
 some (.i .i64 (-1)))) (
 bp x3 (
 some (.i .i64 1)) (
 bp (Op.bytesLess x1 y1) (
 some (.i .i64 (-1))) (
 bp (!(Op.bytesLess x1 y1||decide (x1=y1))) (
 some (.i .i64 1)) (
 some (.i .i64 0)))))
noncomputable def rW:Nat→List MV→Option MV:=bn 240 (fh j9) ve
theorem vz:ap Tryz.prog cx rW:=my xH [] 20 [] [] [] Tryz.func240 (by kernel_rfl) (bu (fun _ _=>by kernel_rfl))
noncomputable def ia (s1 s2:MV):Option MV:=
 gL s1 fun qK=>
 gL s2 fun vA=>
 cB qK fun len=>
 bd (Loop (fun iS=>
 gC iS fun m fV=>
 gI .i64 m fun x=>
 gN fV<|
 bp (decide (x<(len:Int))) (
 idx qK x fun y=>
 gS y fun x1=>
 cB vA fun jU=>
 bp (decide ((jU:Int)≤x)) (
 some (.inr (1,[.i .i64 1]))) (
 idx vA x fun y1=>
 gS y1 fun x2=>
 bd (j9 (.s x1) (.s x2)) fun rA=>
 gI .i64 rA fun x3=>
 bp (!decide (x3=0)) (
 some (.inr (1,[.i .i64 x3]))) (
 some (.inl [.i .i64 (IntKind.wrap .i64 (x+1))])))) (
 some (.inr (2,[])))) [.i .i64 0]) fun p=>
 bp (Nat.beq p.1 2) (
 gN p.2<|
 cB qK fun nY=>
 cB vA fun DZ=>
 bp (decide ((nY:Int)<(DZ:Int))) (
 some (.i .i64 (-1))) (
 some (.i .i64 0))) (
 dy (Nat.beq p.1 1)<|
 gC p.2 fun m1 ni=>
 gI .i64 m1 fun x4=>
 gN ni<|
 some (.i .i64 x4))
noncomputable def oU:Nat→List MV→Option MV:=bn 202 (fh ia) rW
theorem sF:ap Tryz.prog cx oU:=my vz [] 36 [] [] [(2,⟨[0,1,9,10],[],[(11,.sc (.k (.i .i64)))],[(1,[(4,.sc (.k (.i .i64)))]),(2,[])],[]⟩)] Tryz.func202 (by kernel_rfl) (bu (fun _ _=>by kernel_rfl))
noncomputable def qL (p q:MV):Option MV:=
 gS p fun p1=>
 gS q fun q1=>
 bd (jv (.s p1)) fun rA=>
 gT rA fun vs=>
 gC vs fun m iS=>
 gL m fun x=>
 gC iS fun m1 fV=>
 gB m1 fun x1=>
 gN fV<|
 bd (jv (.s q1)) fun aV=>
 gT aV fun kO=>
 gC kO fun m2 ni=>
 gL m2 fun x2=>
 gC ni fun m3 pk=>
 gB m3 fun x3=>
 gN pk<|
 bd (
 bp x1 (
 bp x3 (
 bd (ia (.list x) (.list x2)) fun cP=>
 gI .i64 cP fun x4=>
 some [.b (decide (x4<0))]) (
 some [.b false])) (
 some [.b false])) fun rf=>
 gC rf fun m4 nk=>
 gB m4 fun x5=>
 gN nk<|
 some (.b x5)
noncomputable def D5:Nat→List MV→Option MV:=bn 146 (fh qL) oU
theorem D6:ap Tryz.prog cx D5:=my sF [] 29 [(3,⟨[5,6,7,8],[],[],[(0,[(4,.sc (.k .b))])],[]⟩)] [] [] Tryz.func146 (by kernel_rfl) (bu (fun _ _=>by kernel_rfl))
noncomputable def jx (n p:MV):Option MV:=
 gA n fun cs=>
 je .i64 .i64 cs fun Path Value Version bj=>
 gS p fun p1=>
 bp (decide (Path=p1)) (
 some (.i .i64 0)) (
 bd (qL (.s Path) (.s p1)) fun rA=>
 gB rA fun x=>
 bp x (
 some (.i .i64 (-1))) (
 some (.i .i64 1)))
noncomputable def mB:Nat→List MV→Option MV:=bn 245 (fh jx) D5
theorem uy:ap Tryz.prog cx mB:=my D6 [] 15 [] [] [] Tryz.func245 (by kernel_rfl) (bu (fun _ _=>by kernel_rfl))
noncomputable def bZ:Nat→List MV→Option MV:=mB
theorem eW (x0 x1:MV):bZ 245 [x0,x1]=jx x0 x1:=by kernel_rfl
noncomputable def cb (x target cmp:MV):Option MV:=
 gL x fun x1=>
 gS target fun rS=>
 gR cmp fun Kk=>
 cB x1 fun len=>
 bd (Loop (fun iS=>
 Kg .i64 .i64 iS fun i j=>
 bp (decide (i<j)) (
 dy (decide ((0:Int)≤1))<|
 idx x1 (IntKind.wrap .i64 (Int.fdiv (IntKind.wrap .u64 (IntKind.wrap .i64 (i+j))) (2^min (Int.toNat 1) (IntKind.bits .u64)))) fun y=>
 gA y fun cs=>
 je .i64 .i64 cs fun Path Value Version bj=>
 K3 Kk fun fn cap=>
 dy (!gv fn)<|
 bd (bZ fn ([.agg (nD Path Value Version bj),.s rS]++cap)) fun rA=>
 gI .i64 rA fun x2=>
 bd (
 bp (decide (x2<0)) (
 some (0,[.i .i64 (IntKind.wrap .i64 ((IntKind.wrap .i64 (Int.fdiv (IntKind.wrap .u64 (IntKind.wrap .i64 (i+j))) (2^min (Int.toNat 1) (IntKind.bits .u64))))+1)),.i .i64 j])) (
 some (0,[.i .i64 i,.i .i64 (IntKind.wrap .i64 (Int.fdiv (IntKind.wrap .u64 (IntKind.wrap .i64 (i+j))) (2^min (Int.toNat 1) (IntKind.bits .u64))))]))) fun p1=>
 dy (Nat.beq p1.1 0)<|
 Kg .i64 .i64 p1.2 fun i1 j1=>
 some (.inl [.i .i64 i1,.i .i64 j1])) (
 some (.inr (2,[.i .i64 i])))) [.i .i64 0,.i .i64 (len:Int)]) fun p=>
 dy (Nat.beq p.1 2)<|
 gC p.2 fun m8 Iq=>
 gI .i64 m8 fun i2=>
 gN Iq<|
 bd (
 bp (decide (i2<(len:Int))) (
 idx x1 i2 fun y1=>
 gA y1 fun gu=>
 je .i64 .i64 gu fun iT fm cm po=>
 K3 Kk fun wv oQ=>
 dy (!gv wv)<|
 bd (bZ wv ([.agg (nD iT fm cm po),.s rS]++oQ)) fun aV=>
 gI .i64 aV fun x3=>
 some [.i .i64 i2,.b (decide (x3=0))]) (
 some [.i .i64 i2,.b false])) fun vs=>
 Mk .i64 vs fun x4 x5=>
 some (.cH [.i .i64 x4,.b x5])
noncomputable def eX:Nat→List MV→Option MV:=bn 244 (Fw cb) mB
theorem jy:ap Tryz.prog cx eX:=my uy [] 49 [(8,⟨[0,1,2,8,9],[],[],[(0,[(6,.sc (.k (.i .i64))),(7,.sc (.k .b))])],[]⟩)] [(6,⟨[0,1,2,8,11],[],[],[(0,[(9,.sc (.k (.i .i64))),(10,.sc (.k (.i .i64)))])],[]⟩)] [(3,⟨[0,1,2,8],[],[(9,.sc (.k (.i .i64))),(10,.sc (.k (.i .i64)))],[(2,[(9,.sc (.k (.i .i64)))])],[]⟩)] Tryz.func244 (by kernel_rfl) (rQ (fun _ _ _=>by kernel_rfl))
noncomputable def iW (sA p:MV):Option MV:=
 gA sA fun cs=>
 gC cs fun m iS=>
 gL m fun L=>
 gN iS<|
 gS p fun p1=>
 bd (cb (.list L) (.s p1) (.func 245 [])) fun rA=>
 gT rA fun vs=>
 Mk .i64 vs fun x x1=>
 some (.cH [.i .i64 x,.b x1])
noncomputable def tt:Nat→List MV→Option MV:=bn 216 (fh iW) eX
theorem wC:ap Tryz.prog cx tt:=my jy [] 12 [] [] [] Tryz.func216 (by kernel_rfl) (bu (fun _ _=>by kernel_rfl))
noncomputable def iv (p:MV):Option MV:=
 gS p fun p1=>
 bd (jv (.s p1)) fun rA=>
 gT rA fun vs=>
 gC vs fun m iS=>
 gL m fun x=>
 gC iS fun m1 fV=>
 gB m1 fun x1=>
 gN fV<|
 some (.b x1)
noncomputable def D7:Nat→List MV→Option MV:=bn 73 (te iv) tt
theorem D8:ap Tryz.prog cx D7:=my wC [] 11 [] [] [] Tryz.func73 (by kernel_rfl) (gd (fun _=>by kernel_rfl))
noncomputable def dH (sA c:MV):Option MV:=
 gS sA fun pH=>
 gI .u8 c fun c1=>
 bd (Loop (fun iS=>
 gC iS fun m fV=>
 gI .i64 m fun i=>
 gN fV<|
 bp (decide ((0:Int)≤i)) (
 dy (decide ((0:Int)≤i∧i<(pH.length:Int)))<|
 bp (decide (((pH.getD (Int.toNat i) 0).toNat:Int)=c1)) (
 some (.inr (1,[.i .i64 i]))) (
 some (.inl [.i .i64 (IntKind.wrap .i64 (i-1))]))) (
 some (.inr (2,[])))) [.i .i64 (IntKind.wrap .i64 ((pH.length:Int)-1))]) fun p=>
 bp (Nat.beq p.1 2) (
 gN p.2<|
 some (.i .i64 (-1))) (
 dy (Nat.beq p.1 1)<|
 gC p.2 fun m1 ni=>
 gI .i64 m1 fun x=>
 gN ni<|
 some (.i .i64 x))
noncomputable def ka:Nat→List MV→Option MV:=bn 198 (fh dH) D7
theorem nA:ap Tryz.prog cx ka:=my D8 [] 19 [] [] [(2,⟨[0,1],[],[(5,.sc (.k (.i .i64)))],[(1,[(4,.sc (.k (.i .i64)))]),(2,[])],[]⟩)] Tryz.func198 (by kernel_rfl) (bu (fun _ _=>by kernel_rfl))
noncomputable def eJ (sep:MV):Option MV:=
 gS sep fun V5=>
 bd (Loop (fun iS=>
 Kg .u32 .i64 iS fun hash i=>
 bp (decide ((0:Int)≤i)) (
 dy (decide ((0:Int)≤i∧i<(V5.length:Int)))<|
 some (.inl [.i .u32 (IntKind.wrap .u32 ((IntKind.wrap .u32 (hash *16777619))+(IntKind.wrap .u32 ((V5.getD (Int.toNat i) 0).toNat:Int)))),.i .i64 (IntKind.wrap .i64 (i-1))])) (
 some (.inr (2,[.i .u32 hash])))) [.i .u32 0,.i .i64 (IntKind.wrap .i64 ((V5.length:Int)-1))]) fun p=>
 dy (Nat.beq p.1 2)<|
 gC p.2 fun m2 pk=>
 gI .u32 m2 fun adi=>
 gN pk<|
 bd (Loop (fun nk=>
 B3 .u32 .u32 .i64 nk fun pow sq i1=>
 bp (decide ((0:Int)<i1)) (
 none) (
 some (.inr (4,[.i .u32 pow])))) [.i .u32 1,.i .u32 16777619,.i .i64 (V5.length:Int)]) fun p1=>
 dy (Nat.beq p1.1 4)<|
 gC p1.2 fun m6 sC=>
 gI .u32 m6 fun agi=>
 gN sC<|
 some (.cH [.i .u32 adi,.i .u32 agi])
noncomputable def lO:Nat→List MV→Option MV:=bn 239 (te eJ) ka
theorem pq:ap Tryz.prog cx lO:=my nA [] 40 [] [(11,⟨[4,7,8],[],[],[(0,[(6,.sc (.k (.i .u32)))])],[]⟩)] [(8,⟨[4],[],[(6,.sc (.k (.i .u32))),(7,.sc (.k (.i .u32))),(8,.sc (.k (.i .i64)))],[(4,[(6,.sc (.k (.i .u32)))])],[]⟩),(3,⟨[0],[],[(4,.sc (.k (.i .u32))),(5,.sc (.k (.i .i64)))],[(2,[(4,.sc (.k (.i .u32)))])],[]⟩)] Tryz.func239 (by kernel_rfl) (gd (fun _=>by kernel_rfl))
noncomputable def cV (a a1:MV):Option MV:=
 gS a fun a2=>
 gS a1 fun tu=>
 bd (eJ (.s tu)) fun rA=>
 gT rA fun vs=>
 Kg .u32 .u32 vs fun x x1=>
 bd (Loop (fun ni=>
 Kg .u32 .i64 ni fun x2 x3=>
 bp (decide ((IntKind.wrap .i64 ((a2.length:Int)-(tu.length:Int)))≤x3)) (
 dy (decide ((0:Int)≤x3∧x3<(a2.length:Int)))<|
 some (.inl [.i .u32 (IntKind.wrap .u32 ((IntKind.wrap .u32 (x2 *16777619))+(IntKind.wrap .u32 ((a2.getD (Int.toNat x3) 0).toNat:Int)))),.i .i64 (IntKind.wrap .i64 (x3-1))])) (
 some (.inr (2,[.i .u32 x2])))) [.i .u32 0,.i .i64 (IntKind.wrap .i64 ((a2.length:Int)-1))]) fun p=>
 dy (Nat.beq p.1 2)<|
 gC p.2 fun m4 pn=>
 gI .u32 m4 fun x4=>
 gN pn<|
 bd (
 bp (decide (x4=x)) (
 dy (decide ((0:Int)≤(IntKind.wrap .i64 ((a2.length:Int)-(tu.length:Int)))∧(IntKind.wrap .i64 ((a2.length:Int)-(tu.length:Int)))≤(a2.length:Int)∧(a2.length:Int)≤(a2.length:Int)))<|
 some [.b (decide ((List.drop (Int.toNat (IntKind.wrap .i64 ((a2.length:Int)-(tu.length:Int)))) (List.take (Int.toNat (a2.length:Int)) a2))=tu))]) (
 some [.b false])) fun kO=>
 gC kO fun m5 qM=>
 gB m5 fun x5=>
 gN qM<|
 bp x5 (
 some (.i .i64 (IntKind.wrap .i64 ((a2.length:Int)-(tu.length:Int))))) (
 bd (Loop (fun uz=>
 Kg .u32 .i64 uz fun x6 x7=>
 bp (decide ((0:Int)≤x7)) (
 dy (decide ((0:Int)≤x7∧x7<(a2.length:Int)))<|
 dy (decide ((0:Int)≤(IntKind.wrap .i64 (x7+(tu.length:Int)))∧(IntKind.wrap .i64 (x7+(tu.length:Int)))<(a2.length:Int)))<|
 bd (
 bp (decide ((IntKind.wrap .u32 ((IntKind.wrap .u32 ((IntKind.wrap .u32 (x6 *16777619))+(IntKind.wrap .u32 ((a2.getD (Int.toNat x7) 0).toNat:Int))))-(IntKind.wrap .u32 (x1 *(IntKind.wrap .u32 ((a2.getD (Int.toNat (IntKind.wrap .i64 (x7+(tu.length:Int)))) 0).toNat:Int))))))=x)) (
 dy (decide ((0:Int)≤x7∧x7≤(IntKind.wrap .i64 (x7+(tu.length:Int)))∧(IntKind.wrap .i64 (x7+(tu.length:Int)))≤(a2.length:Int)))<|
 some [.b (decide ((List.drop (Int.toNat x7) (List.take (Int.toNat (IntKind.wrap .i64 (x7+(tu.length:Int)))) a2))=tu))]) (
 some [.b false])) fun rf=>
 gC rf fun m8 tj=>
 gB m8 fun x8=>
 gN tj<|
 bp x8 (
 some (.inr (1,[.i .i64 x7]))) (
 some (.inl [.i .u32 (IntKind.wrap .u32 ((IntKind.wrap .u32 ((IntKind.wrap .u32 (x6 *16777619))+(IntKind.wrap .u32 ((a2.getD (Int.toNat x7) 0).toNat:Int))))-(IntKind.wrap .u32 (x1 *(IntKind.wrap .u32 ((a2.getD (Int.toNat (IntKind.wrap .i64 (x7+(tu.length:Int)))) 0).toNat:Int)))))),.i .i64 (IntKind.wrap .i64 (x7-1))]))) (
 some (.inr (4,[])))) [.i .u32 x4,.i .i64 (IntKind.wrap .i64 ((IntKind.wrap .i64 ((a2.length:Int)-(tu.length:Int)))-1))]) fun p1=>
 bp (Nat.beq p1.1 4) (
 gN p1.2<|
 some (.i .i64 (-1))) (
 dy (Nat.beq p1.1 1)<|
 gC p1.2 fun m9 qG=>
 gI .i64 m9 fun x9=>
 gN qG<|
 some (.i .i64 x9)))
noncomputable def ib:Nat→List MV→Option MV:=bn 199 (fh cV) lO
theorem lD:ap Tryz.prog cx ib:=my pq [] 87 [(17,⟨[0,1,5,6,7,9,11],[],[],[(0,[(85,.sc (.k .b))])],[]⟩),(9,⟨[0,1,5,6,7,8,9],[],[],[(0,[(47,.sc (.k .b))])],[]⟩)] [] [(12,⟨[0,1,5,6,7],[],[(9,.sc (.k (.i .u32))),(11,.sc (.k (.i .i64)))],[(1,[(4,.sc (.k (.i .i64)))]),(4,[])],[]⟩),(6,⟨[0,1,5,6,7,8],[],[(9,.sc (.k (.i .u32))),(10,.sc (.k (.i .i64)))],[(2,[(9,.sc (.k (.i .u32)))])],[]⟩)] Tryz.func199 (by kernel_rfl) (bu (fun _ _=>by kernel_rfl))
noncomputable def kb (sA substr:MV):Option MV:=
 gS sA fun pH=>
 gS substr fun rX=>
 bp (decide ((rX.length:Int)=0)) (
 some (.i .i64 (pH.length:Int))) (
 bp (decide ((rX.length:Int)=1)) (
 dy (decide ((0:Int)≤0∧(0:Int)<(rX.length:Int)))<|
 bd (dH (.s pH) (.i .u8 ((rX.getD (Int.toNat 0) 0).toNat:Int))) fun rA=>
 gI .i64 rA fun x=>
 some (.i .i64 x)) (
 bp (decide ((rX.length:Int)=(pH.length:Int))) (
 bp (decide (rX=pH)) (
 some (.i .i64 0)) (
 some (.i .i64 (-1)))) (
 bp (decide ((pH.length:Int)<(rX.length:Int))) (
 some (.i .i64 (-1))) (
 bd (cV (.s pH) (.s rX)) fun aV=>
 gI .i64 aV fun x1=>
 some (.i .i64 x1)))))
noncomputable def rY:Nat→List MV→Option MV:=bn 138 (fh kb) ib
theorem vB:ap Tryz.prog cx rY:=my lD [] 36 [] [] [] Tryz.func138 (by kernel_rfl) (bu (fun _ _=>by kernel_rfl))
noncomputable def mL (p:MV):Option MV:=
 gS p fun p1=>
 bd (iv (.s p1)) fun rA=>
 gB rA fun x=>
 bp (!x) (
 some (.cH [.s ([]:List UInt8),.i .i64 13])) (
 bp (decide (p1=([47]:List UInt8))) (
 some (.cH [.s ([]:List UInt8),.i .i64 6])) (
 bd (kb (.s p1) (.s ([47]:List UInt8))) fun aV=>
 gI .i64 aV fun x1=>
 dy (decide ((0:Int)≤0∧(0:Int)≤(imax 1 x1)∧(imax 1 x1)≤(p1.length:Int)))<|
 some (.cH [.s (List.drop (Int.toNat 0) (List.take (Int.toNat (imax 1 x1)) p1)),.i .i64 0])))
noncomputable def BG:Nat→List MV→Option MV:=bn 74 (te mL) rY
theorem B7:ap Tryz.prog cx BG:=my vB [] 16 [] [] [] Tryz.func74 (by kernel_rfl) (gd (fun _=>by kernel_rfl))
noncomputable def gx (sA p:MV):Option MV:=
 gA sA fun cs=>
 gC cs fun m iS=>
 gL m fun L=>
 gN iS<|
 gS p fun p1=>
 bd (iv (.s p1)) fun rA=>
 gB rA fun x=>
 bp (!x) (
 some (.cH [.i .i64 0,.i .i64 13])) (
 bd (iW (.agg [.list L]) (.s p1)) fun aV=>
 gT aV fun vs=>
 Mk .i64 vs fun x1 x2=>
 bp (!x2) (
 some (.cH [.i .i64 0,.i .i64 6])) (
 some (.cH [.i .i64 x1,.i .i64 0])))
noncomputable def vf:Nat→List MV→Option MV:=bn 220 (fh gx) BG
theorem xI:ap Tryz.prog cx vf:=my B7 [] 20 [] [] [] Tryz.func220 (by kernel_rfl) (bu (fun _ _=>by kernel_rfl))
noncomputable def qc (sA p:MV):Option MV:=
 gA sA fun cs=>
 gC cs fun m iS=>
 gL m fun L=>
 gN iS<|
 gS p fun p1=>
 bd (gx (.agg [.list L]) (.s p1)) fun rA=>
 gT rA fun vs=>
 Kg .i64 .i64 vs fun x x1=>
 bp (!decide (x1=0)) (
 some (.cH [.agg (nD ([]:List UInt8) ([]:List UInt8) 0 0),.i .i64 x1])) (
 idx L x fun y=>
 gA y fun gu=>
 je .i64 .i64 gu fun Path Value Version bj=>
 some (.cH [.agg (nD Path Value Version bj),.i .i64 0]))
noncomputable def GZ:Nat→List MV→Option MV:=bn 172 (fh qc) vf
theorem FI:ap Tryz.prog cx GZ:=my xI [] 23 [] [] [] Tryz.func172 (by kernel_rfl) (bu (fun _ _=>by kernel_rfl))
noncomputable def nl (c c1 c2 c3 c4:MV):Option MV:=
 gP c fun cs=>
 gC cs fun m iS=>
 gS m fun x=>
 gN iS<|
 gP c1 fun gu=>
 gC gu fun m1 fV=>
 gB m1 fun x1=>
 gN fV<|
 gP c2 fun tL=>
 gC tL fun m2 ni=>
 gL m2 fun L=>
 gN ni<|
 gP c3 fun qm=>
 gC qm fun m3 pk=>
 gS m3 fun x2=>
 gN pk<|
 gP c4 fun V6=>
 gC V6 fun m4 nk=>
 gI .i64 m4 fun x3=>
 gN nk<|
 bd (iv (.s x)) fun rA=>
 gB rA fun x4=>
 bp (!x4) (
 some (.i .i64 13)) (
 bp x1 (
 some (.i .i64 7)) (
 bd (mL (.s x)) fun aV=>
 gT aV fun vs=>
 gC vs fun m5 pn=>
 gS m5 fun x5=>
 gC pn fun m6 qM=>
 gI .i64 m6 fun x6=>
 gN qM<|
 bd (qc (.agg [.list L]) (.s x5)) fun cP=>
 gT cP fun kO=>
 gC kO fun m7 uz=>
 gA m7 fun cs5=>
 je .i64 .i64 cs5 fun Path Value Version bj=>
 gC uz fun VN zI=>
 gI .i64 VN fun x7=>
 gN zI<|
 bp (!decide (x7=0)) (
 some (.i .i64 6)) (
 bp (!decide (bj=0)) (
 some (.i .i64 10)) (
 bp (decide ((1000:Int)<(x2.length:Int))) (
 some (.i .i64 5)) (
 bp (decide (x3<0)) (
 some (.i .i64 1)) (
 cB L fun len=>
 bp (decide ((200:Int)≤(len:Int))) (
 some (.i .i64 9)) (
 some (.i .i64 0))))))))
noncomputable def wD:Nat→List MV→Option MV:=bn 217 (Y6 nl) GZ
theorem yI:ap Tryz.prog cx wD:=my FI [[.s],[.b],[.l],[.s],[.i .i64]] 44 [] [] [] Tryz.func217 (by kernel_rfl) (VA (fun _ _ _ _ _=>by kernel_rfl))
noncomputable def pT (sA p value owner:MV):Option MV:=
 gA sA fun cs=>
 gC cs fun m iS=>
 gL m fun L=>
 gN iS<|
 gS p fun p1=>
 gS value fun wE=>
 gI .i64 owner fun AK=>
 bd (iW (.agg [.list L]) (.s p1)) fun rA=>
 gT rA fun vs=>
 Mk .i64 vs fun x x1=>
 bd (nl (.rp [.s p1]) (.rp [.b x1]) (.rp [.list L]) (.rp [.s wE]) (.rp [.i .i64 AK])) fun aV=>
 gI .i64 aV fun x2=>
 bp (!decide (x2=0)) (
 some (.cH [.agg [.list L],.i .i64 x2])) (
 both (
 bd (fD 4 48 [.list L]) fun cP=>
 gF cP fun xs=>
 bd (jn 48 [.fresh xs,.i .i64 x,.fresh ([.agg (nD p1 wE 0 AK)]:List MV)]) fun mP=>
 gF mP fun Ir=>
 some (.cH [.agg [.list Ir],.i .i64 0])) (
 bd (fD 4 48 [.list L]) fun Fy=>
 gF Fy fun XJ=>
 bd (jn 48 [.fresh XJ,.i .i64 x,.fresh ([.agg (nD p1 wE 0 AK)]:List MV)]) fun Mj=>
 gF Mj fun xs3=>
 some (.cH [.agg [.list xs3],.i .i64 0])))
noncomputable def zJ:Nat→List MV→Option MV:=bn 170 (Vz pT) wD
theorem AL:ap Tryz.prog cx zJ:=FE yI [] [] 38 [] [] [] [(6,[0,1,3,4,5,6,7,2,8,9,10,11,12,0,1,3,4,5,6,7,8,2,9,10,11,12,2,8])] [] [] [] [] Tryz.func170 (by kernel_rfl) (NS (fun _ _ _ _=>by kernel_rfl))
noncomputable def eD (w:List MV) (kind:MV):Option MV:=
 gI .i64 kind fun XK=>
 ax .i64 .i64 .i64 .i64 .i64 .i64 .i64 .i64 .i64 .i64 .i64 w fun ch bT dx cE gq cr lN fA dN df bO bB fc cj lc xE dm bU dn lA=>
 bd (
 bp (decide (xE=0)) (
 cB lA fun len=>
 cB ([.agg [.i .i64 XK,.s dN]]:List MV) fun jU=>
 dy (decide ((len+jU) *24≤2^46))<|
 some (0,(ao ch bT dx cE gq cr lN fA dN df bO bB fc cj lc xE dm bU dn (lA++([.agg [.i .i64 XK,.s dN]]:List MV))))) (
 some (0,(ao ch bT dx cE gq cr lN fA dN df bO bB fc cj lc xE dm bU dn lA)))) fun p=>
 dy (Nat.beq p.1 0)<|
 ax .i64 .i64 .i64 .i64 .i64 .i64 .i64 .i64 .i64 .i64 .i64 p.2 fun x x1 x2 x3 x4 x5 x6 x7 x8 x9 B4 DM DN DO DP DQ Fz FA FB xs=>
 some (.dL (.cH []) (ao x x1 x2 x3 x4 x5 x6 x7 x8 x9 B4 DM DN DO DP DQ Fz FA FB xs))
noncomputable def qN:Nat→List MV→Option MV:=bn 171 (cl2 eD) zJ
theorem uA:ap Tryz.prog cx qN:=La AL 0 jf [] [(0,1000000)] 26 [22] [] [] [(1,[0,1,2,3,4,5,6,7,8,9,10,11,12,13,14,15,16])] [] [(1,⟨[0,1],[],[],[(0,[(1000000,.box [.k .l,.k (.i .i64),.k .l,.k .l,.k .l,.k (.i .i64),.k (.i .i64),.k (.i .i64),.k .s,.k .s,.k (.i .i64),.k (.i .i64),.k (.i .i64),.k (.i .i64),.k (.i .i64),.k (.i .i64),.k .s,.k (.i .i64),.k .l,.own 2000019 77 false])])],[22]⟩)] [] [] Tryz.func171 (by kernel_rfl) (by kernel_rfl) (S7 fun _ _=>by kernel_rfl)
noncomputable def kc (w:List MV):Option MV:=
 ax .i64 .i64 .i64 .i64 .i64 .i64 .i64 .i64 .i64 .i64 .i64 w fun ch bT dx cE gq cr lN fA dN df bO bB fc cj lc xE dm bU dn lA=>
 bd (
 bp (!decide (bB=0)) (
 bd (tq (.agg [.i .i64 bT,.list dx]) (.i .i64 bB)) fun rA=>
 gB rA fun x=>
 some [.b (!x)]) (
 some [.b false])) fun vs=>
 gC vs fun B5 iV=>
 gB B5 fun x1=>
 gN iV<|
 bp x1 (
 some (.dL (.cH []) (ao ch bT dx cE gq cr lN fA dN df bO bB fc cj lc 14 dm bU dn lA))) (
 bd (pT (.agg [.list ch]) (.s dN) (.s df) (.i .i64 bB)) fun aV=>
 gT aV fun kO=>
 gC kO fun PD tl=>
 gA PD fun cs=>
 gC cs fun Ta wA=>
 gL Ta fun L=>
 gN wA<|
 gC tl fun PE tm=>
 gI .i64 PE fun x2=>
 gN tm<|
 bd (eD (ao L bT dx cE gq cr lN fA dN df bO bB fc cj lc x2 dm bU dn lA) (.i .i64 1)) fun cP=>
 gW cP fun x3 ls=>
 ax .i64 .i64 .i64 .i64 .i64 .i64 .i64 .i64 .i64 .i64 .i64 ls fun kH jP od lP sG lQ yh sH qO oe jQ jR sI lR yi Tc oh lf ol Kh=>
 some (.dL (.cH []) (ao kH jP od lP sG lQ yh sH qO oe jQ jR sI lR yi Tc oh lf ol Kh)))
noncomputable def rZ:Nat→List MV→Option MV:=bn 106 (PC kc) qN
theorem vC:ap Tryz.prog cx rZ:=La uA 0 jf [] [(0,1000000)] 60 [] [] [] [(0,[0,1,2,3,4,5,6,7,8,9,10,11,12,13,14,15,16,17,18,19]),(2,[0,1,2,3,4,5,6,7,8,9,10,11,12,13,14,15,16,17,18,19,20,21,22,23,24,25,26,27,28,29,30,31,32,33])] [(0,⟨[0,1000000],[2000019],[],[(0,[(21,.sc (.k .b))])],[]⟩)] [] [] [] Tryz.func106 (by kernel_rfl) (by kernel_rfl) (qF fun _=>by kernel_rfl)
noncomputable def nm (w:List MV):Option MV:=
 ax .i64 .i64 .i64 .i64 .i64 .i64 .i64 .i64 .i64 .i64 .i64 w fun ch bT dx cE gq cr lN fA dN df bO bB fc cj lc xE dm bU dn lA=>
 bd (qc (.agg [.list ch]) (.s dN)) fun rA=>
 gT rA fun vs=>
 gC vs fun B5 iV=>
 gA B5 fun cs=>
 je .i64 .i64 cs fun Path Value Version bj=>
 gC iV fun V4 DU=>
 gI .i64 V4 fun x=>
 gN DU<|
 some (.dL (.cH []) (ao ch bT dx cE gq cr lN fA dN df bO bB fc cj lc x Value Version dn lA))
noncomputable def wF:Nat→List MV→Option MV:=bn 107 (PC nm) rZ
theorem yJ:ap Tryz.prog cx wF:=La vC 0 jf [] [(0,1000000)] 35 [] [24] [(1,[2])] [(0,[0,1,2,3,4,5,6,7,8,9,10,11,12,13,14,15,16]),(1,[0,1,2,3,4,5,6,7,8,9,10,11,12,13,14,15,16,17,18,19])] [] [] [] [] Tryz.func107 (by kernel_rfl) (by kernel_rfl) (qF fun _=>by kernel_rfl)
noncomputable def eY (sA p version:MV):Option MV:=
 gA sA fun cs=>
 gC cs fun m iS=>
 gL m fun L=>
 gN iS<|
 gS p fun p1=>
 gI .i64 version fun tw=>
 bd (gx (.agg [.list L]) (.s p1)) fun rA=>
 gT rA fun vs=>
 Kg .i64 .i64 vs fun x x1=>
 bd (
 bp (decide (x1=0)) (
 bp (!decide (tw=(-1))) (
 idx L x fun y=>
 gA y fun gu=>
 je .i64 .i64 gu fun Path Value Version bj=>
 some [.b (!decide (tw=Version))]) (
 some [.b false])) (
 some [.b false])) fun kO=>
 gC kO fun m7 uz=>
 gB m7 fun x2=>
 gN uz<|
 bp x2 (
 some (.cH [.i .i64 x,.i .i64 8])) (
 some (.cH [.i .i64 x,.i .i64 x1]))
noncomputable def oV:Nat→List MV→Option MV:=bn 221 (Fw eY) wF
theorem sJ:ap Tryz.prog cx oV:=my yJ [] 35 [(2,⟨[2,3,8,9],[],[],[(0,[(31,.sc (.k .b))])],[]⟩)] [] [] Tryz.func221 (by kernel_rfl) (rQ (fun _ _ _=>by kernel_rfl))
noncomputable def xm (sA p value version:MV):Option MV:=
 gA sA fun cs=>
 gC cs fun m iS=>
 gL m fun L=>
 gN iS<|
 gS p fun p1=>
 gS value fun wE=>
 gI .i64 version fun tw=>
 bd (eY (.agg [.list L]) (.s p1) (.i .i64 tw)) fun rA=>
 gT rA fun vs=>
 Kg .i64 .i64 vs fun x x1=>
 bp (!decide (x1=0)) (
 some (.cH [.agg [.list L],.i .i64 x1])) (
 bp (decide ((1000:Int)<(wE.length:Int))) (
 some (.cH [.agg [.list L],.i .i64 5])) (
 idx L x fun y=>
 gA y fun gu=>
 je .i64 .i64 gu fun Path Value Version bj=>
 bp (decide ((1000000000:Int)≤Version)) (
 some (.cH [.agg [.list L],.i .i64 9])) (
 bd (fD 4 48 [.list L]) fun aV=>
 gF aV fun xs=>
 idx xs x fun y1=>
 gA y1 fun tL=>
 je .i64 .i64 tL fun iT fm cm po=>
 idx (xs.set (Int.toNat x) (.agg (nD iT wE cm po))) x fun y2=>
 gA y2 fun qm=>
 je .i64 .i64 qm fun XL Is wG Zy=>
 idx (xs.set (Int.toNat x) (.agg (nD iT wE cm po))) x fun y3=>
 gA y3 fun V6=>
 je .i64 .i64 V6 fun adj Zz adk ZA=>
 some (.cH [.agg [.list ((xs.set (Int.toNat x) (.agg (nD iT wE cm po))).set (Int.toNat x) (.agg (nD adj Zz (IntKind.wrap .i64 (wG+1)) ZA)))],.i .i64 0]))))
noncomputable def G0:Nat→List MV→Option MV:=bn 173 (Vz xm) oV
theorem FJ:ap Tryz.prog cx G0:=my sJ [] 59 [] [] [] Tryz.func173 (by kernel_rfl) (NS (fun _ _ _ _=>by kernel_rfl))
noncomputable def nn (w:List MV):Option MV:=
 ax .i64 .i64 .i64 .i64 .i64 .i64 .i64 .i64 .i64 .i64 .i64 w fun ch bT dx cE gq cr lN fA dN df bO bB fc cj lc xE dm bU dn lA=>
 bd (xm (.agg [.list ch]) (.s dN) (.s df) (.i .i64 bO)) fun rA=>
 gT rA fun vs=>
 gC vs fun B5 iV=>
 gA B5 fun cs=>
 gC cs fun PD tl=>
 gL PD fun L=>
 gN tl<|
 gC iV fun Ta wA=>
 gI .i64 Ta fun x=>
 gN wA<|
 bd (eD (ao L bT dx cE gq cr lN fA dN df bO bB fc cj lc x dm bU dn lA) (.i .i64 2)) fun aV=>
 gW aV fun x1 ls=>
 ax .i64 .i64 .i64 .i64 .i64 .i64 .i64 .i64 .i64 .i64 .i64 ls fun kH jP od lP sG lQ yh sH qO oe jQ jR sI lR yi Tc oh lf ol Kh=>
 bd (
 bp (decide (Tc=0)) (
 bd (qc (.agg [.list kH]) (.s qO)) fun cP=>
 gT cP fun kO=>
 gC kO fun m43 Kp=>
 gA m43 fun gu=>
 je .i64 .i64 gu fun Path Value Version bj=>
 gC Kp fun m48 Tb=>
 gI .i64 m48 fun x2=>
 gN Tb<|
 some (0,(ao kH jP od lP sG lQ yh sH qO oe jQ jR sI lR yi Tc oh Version ol Kh))) (
 some (0,(ao kH jP od lP sG lQ yh sH qO oe jQ jR sI lR yi Tc oh lf ol Kh)))) fun p=>
 dy (Nat.beq p.1 0)<|
 ax .i64 .i64 .i64 .i64 .i64 .i64 .i64 .i64 .i64 .i64 .i64 p.2 fun x3 x4 x5 x6 x7 x8 x9 B4 DM DN DO DP DQ Fz FA FB FC NZ Qx xs=>
 some (.dL (.cH []) (ao x3 x4 x5 x6 x7 x8 x9 B4 DM DN DO DP DQ Fz FA FB FC NZ Qx xs))
noncomputable def wH:Nat→List MV→Option MV:=bn 108 (PC nn) G0
theorem yK:ap Tryz.prog cx wH:=La FJ 0 jf [] [(0,1000000)] 64 [] [] [] [(0,[0,1,2,3,4,5,6,7,8,9,10,11,12,13,14,15,16,17,18,19,20,21,22,23,24,25,26,27,28,29,30,31,32,33]),(3,[0,1,2,3,4,5,6,7,8,9,10,11,12,13,14,15,16])] [] [(3,⟨[0],[],[],[(0,[(1000000,.box [.k .l,.k (.i .i64),.k .l,.k .l,.k .l,.k (.i .i64),.k (.i .i64),.k (.i .i64),.k .s,.k .s,.k (.i .i64),.k (.i .i64),.k (.i .i64),.k (.i .i64),.k (.i .i64),.k (.i .i64),.k .s,.k (.i .i64),.k .l,.own 2000019 77 false])])],[]⟩)] [] [] Tryz.func108 (by kernel_rfl) (by kernel_rfl) (qF fun _=>by kernel_rfl)
noncomputable def fW (s1 s2:MV):Option MV:=
 gL s1 fun qK=>
 gL s2 fun vA=>
 cB qK fun len=>
 cB vA fun jU=>
 bp (!decide ((len:Int)=(jU:Int))) (
 some (.b false)) (
 cB qK fun nY=>
 bd (Loop (fun iS=>
 gC iS fun m fV=>
 gI .i64 m fun x=>
 gN fV<|
 bp (decide (x<(nY:Int))) (
 idx qK x fun y=>
 gS y fun x1=>
 idx vA x fun y1=>
 gS y1 fun x2=>
 bp (!decide (x1=x2)) (
 some (.inr (1,[.b false]))) (
 some (.inl [.i .i64 (IntKind.wrap .i64 (x+1))]))) (
 some (.inr (2,[])))) [.i .i64 0]) fun p=>
 bp (Nat.beq p.1 2) (
 gN p.2<|
 some (.b true)) (
 dy (Nat.beq p.1 1)<|
 gC p.2 fun m1 ni=>
 gB m1 fun x3=>
 gN ni<|
 some (.b x3)))
noncomputable def qP:Nat→List MV→Option MV:=bn 142 (fh fW) wH
theorem uB:ap Tryz.prog cx qP:=FE yK [] [] 26 [] [] [] [(6,[0,1,2,3,4,5,6,7,8])] [] [] [(4,⟨[0,1,12],[],[(13,.sc (.k (.i .i64)))],[(1,[(4,.sc (.k .b))]),(2,[])],[]⟩)] [] Tryz.func142 (by kernel_rfl) (bu (fun _ _=>by kernel_rfl))
noncomputable def qQ (p q:MV):Option MV:=
 gS p fun p1=>
 gS q fun q1=>
 bd (jv (.s p1)) fun rA=>
 gT rA fun vs=>
 gC vs fun m iS=>
 gL m fun x=>
 gC iS fun m1 fV=>
 gB m1 fun x1=>
 gN fV<|
 bd (jv (.s q1)) fun aV=>
 gT aV fun kO=>
 gC kO fun m2 ni=>
 gL m2 fun x2=>
 gC ni fun m3 pk=>
 gB m3 fun x3=>
 gN pk<|
 bd (
 bp x1 (
 bp x3 (
 cB x2 fun len=>
 cB x fun jU=>
 bp (decide ((jU:Int)<(len:Int))) (
 cB x fun nY=>
 cB x2 fun DZ=>
 dy (decide ((0:Int)≤0∧(0:Int)≤(nY:Int)∧(nY:Int)≤(DZ:Int)))<|
 bd (fW (.list x) (.list (List.drop (Int.toNat 0) (List.take (Int.toNat (nY:Int)) x2)))) fun cP=>
 gB cP fun x4=>
 some [.b x4]) (
 some [.b false])) (
 some [.b false])) (
 some [.b false])) fun rf=>
 gC rf fun m4 nk=>
 gB m4 fun x5=>
 gN nk<|
 some (.b x5)
noncomputable def D9:Nat→List MV→Option MV:=bn 222 (fh qQ) qP
theorem Ea:ap Tryz.prog cx D9:=my uB [] 38 [(3,⟨[5,6,7,8],[],[],[(0,[(4,.sc (.k .b))])],[]⟩)] [] [] Tryz.func222 (by kernel_rfl) (bu (fun _ _=>by kernel_rfl))
noncomputable def pU (sA p version:MV):Option MV:=
 gA sA fun cs=>
 gC cs fun m iS=>
 gL m fun L=>
 gN iS<|
 gS p fun p1=>
 gI .i64 version fun tw=>
 bd (eY (.agg [.list L]) (.s p1) (.i .i64 tw)) fun rA=>
 gT rA fun vs=>
 Kg .i64 .i64 vs fun x x1=>
 bp (decide (p1=([47]:List UInt8))) (
 some (.cH [.agg [.list L],.i .i64 13])) (
 bp (!decide (x1=0)) (
 some (.cH [.agg [.list L],.i .i64 x1])) (
 bd (
 cB L fun len=>
 bp (decide ((IntKind.wrap .i64 (x+1))<(len:Int))) (
 idx L (IntKind.wrap .i64 (x+1)) fun y=>
 gA y fun gu=>
 je .i64 .i64 gu fun Path Value Version bj=>
 bd (qQ (.s p1) (.s Path)) fun aV=>
 gB aV fun x2=>
 some [.b x2]) (
 some [.b false])) fun kO=>
 gC kO fun m7 uz=>
 gB m7 fun x3=>
 gN uz<|
 bp x3 (
 some (.cH [.agg [.list L],.i .i64 10])) (
 bd (fD 4 48 [.list L]) fun cP=>
 gF cP fun xs=>
 bd (n9 [.fresh xs,.i .i64 x,.i .i64 (IntKind.wrap .i64 (x+1))]) fun mP=>
 gF mP fun Ir=>
 some (.cH [.agg [.list Ir],.i .i64 0]))))
noncomputable def zK:Nat→List MV→Option MV:=bn 174 (Fw pU) D9
theorem AM:ap Tryz.prog cx zK:=my Ea [] 53 [(6,⟨[1,3,6,8],[],[],[(0,[(26,.sc (.k .b))])],[47,51]⟩)] [] [] Tryz.func174 (by kernel_rfl) (rQ (fun _ _ _=>by kernel_rfl))
noncomputable def ke (w:List MV):Option MV:=
 ax .i64 .i64 .i64 .i64 .i64 .i64 .i64 .i64 .i64 .i64 .i64 w fun ch bT dx cE gq cr lN fA dN df bO bB fc cj lc xE dm bU dn lA=>
 bd (pU (.agg [.list ch]) (.s dN) (.i .i64 bO)) fun rA=>
 gT rA fun vs=>
 gC vs fun B5 iV=>
 gA B5 fun cs=>
 gC cs fun PD tl=>
 gL PD fun L=>
 gN tl<|
 gC iV fun Ta wA=>
 gI .i64 Ta fun x=>
 gN wA<|
 bd (eD (ao L bT dx cE gq cr lN fA dN df bO bB fc cj lc x dm bU dn lA) (.i .i64 3)) fun aV=>
 gW aV fun x1 ls=>
 ax .i64 .i64 .i64 .i64 .i64 .i64 .i64 .i64 .i64 .i64 .i64 ls fun kH jP od lP sG lQ yh sH qO oe jQ jR sI lR yi Tc oh lf ol Kh=>
 some (.dL (.cH []) (ao kH jP od lP sG lQ yh sH qO oe jQ jR sI lR yi Tc oh lf ol Kh))
noncomputable def r5:Nat→List MV→Option MV:=bn 109 (PC ke) zK
theorem vD:ap Tryz.prog cx r5:=La AM 0 jf [] [(0,1000000)] 31 [] [] [] [(0,[0,1,2,3,4,5,6,7,8,9,10,11,12,13,14,15,16,17,18,19,20,21,22,23,24,25,26,27,28])] [] [] [] [] Tryz.func109 (by kernel_rfl) (by kernel_rfl) (qF fun _=>by kernel_rfl)
noncomputable def qR (p:MV):Option MV:=
 gS p fun p1=>
 bd (jv (.s p1)) fun rA=>
 gT rA fun vs=>
 gC vs fun m iS=>
 gL m fun x=>
 gC iS fun m1 fV=>
 gB m1 fun x1=>
 gN fV<|
 bp (!x1) (
 some (.cH [.list ([]:List MV),.i .i64 13])) (
 some (.cH [.list x,.i .i64 0]))
noncomputable def Eb:Nat→List MV→Option MV:=bn 224 (te qR) r5
theorem Ec:ap Tryz.prog cx Eb:=my vD [] 14 [] [] [] Tryz.func224 (by kernel_rfl) (gd (fun _=>by kernel_rfl))
noncomputable def uC (a a1:MV):Option MV:=
 gA a fun cs=>
 gC cs fun m iS=>
 gL m fun L=>
 gN iS<|
 gS a1 fun tu=>
 bd (gx (.agg [.list L]) (.s tu)) fun rA=>
 gT rA fun vs=>
 Kg .i64 .i64 vs fun x x1=>
 bp (!decide (x1=0)) (
 some (.cH [.list ([]:List MV),.i .i64 x1])) (
 bd (qR (.s tu)) fun aV=>
 gT aV fun kO=>
 gC kO fun m3 pk=>
 gL m3 fun x2=>
 gC pk fun m4 nk=>
 gI .i64 m4 fun x3=>
 gN nk<|
 dy (sP 4 L)<|
 cB L fun len=>
 dy (decide ((0:Int)≤(IntKind.wrap .i64 (x+1))∧(IntKind.wrap .i64 (x+1))≤(len:Int)∧(len:Int)≤(len:Int)))<|
 cB (List.drop (Int.toNat (IntKind.wrap .i64 (x+1))) (List.take (Int.toNat (len:Int)) L)) fun jU=>
 bd (Loop (fun pn=>
 gC pn fun m5 qM=>
 gL m5 fun xs=>
 gC qM fun m6 uz=>
 gI .i64 m6 fun x4=>
 gN uz<|
 bp (decide (x4<(jU:Int))) (
 idx (List.drop (Int.toNat (IntKind.wrap .i64 (x+1))) (List.take (Int.toNat (len:Int)) L)) x4 fun y=>
 gA y fun gu=>
 je .i64 .i64 gu fun Path Value Version bj=>
 bd (qQ (.s tu) (.s Path)) fun cP=>
 gB cP fun x5=>
 bp (!x5) (
 some (.inr (2,[.list xs]))) (
 bd (qR (.s Path)) fun mP=>
 gT mP fun rf=>
 gC rf fun Pq zI=>
 gL Pq fun x6=>
 gC zI fun VN DT=>
 gI .i64 VN fun x7=>
 gN DT<|
 cB x6 fun nY=>
 cB x2 fun DZ=>
 bd (
 bp (decide ((nY:Int)=(IntKind.wrap .i64 ((DZ:Int)+1)))) (
 cB x2 fun Ml=>
 idx x6 (Ml:Int) fun y1=>
 gS y1 fun x8=>
 cB xs fun agk=>
 cB ([.s x8]:List MV) fun agl=>
 dy (decide ((agk+agl) *16≤2^46))<|
 some (0,[.list (xs++([.s x8]:List MV))])) (
 some (0,[.list xs]))) fun p1=>
 dy (Nat.beq p1.1 0)<|
 gC p1.2 fun VO Td=>
 gL VO fun Ir=>
 gN Td<|
 some (.inl [.list Ir,.i .i64 (IntKind.wrap .i64 (x4+1))]))) (
 some (.inr (2,[.list xs])))) [.list ([]:List MV),.i .i64 0]) fun p=>
 dy (Nat.beq p.1 2)<|
 gC p.2 fun m14 Te=>
 gL m14 fun XJ=>
 gN Te<|
 some (.cH [.list XJ,.i .i64 0]))
noncomputable def Ed:Nat→List MV→Option MV:=bn 175 (fh uC) Eb
theorem Ee:ap Tryz.prog cx Ed:=FE Ec [] [] 66 [62] [] [] [] [] [(12,⟨[1,8,13,33,34,35],[],[],[(0,[(10,.sc (.own 63 9 true))])],[62,63]⟩)] [(7,⟨[1,8,33,34],[],[(10,.sc (.own 63 9 true)),(35,.sc (.k (.i .i64)))],[(2,[(10,.sc (.own 63 9 true))])],[62,63]⟩)] [] Tryz.func175 (by kernel_rfl) (bu (fun _ _=>by kernel_rfl))
noncomputable def mf (w:List MV):Option MV:=
 ax .i64 .i64 .i64 .i64 .i64 .i64 .i64 .i64 .i64 .i64 .i64 w fun ch bT dx cE gq cr lN fA dN df bO bB fc cj lc xE dm bU dn lA=>
 bd (uC (.agg [.list ch]) (.s dN)) fun rA=>
 gT rA fun vs=>
 gC vs fun B5 iV=>
 gL B5 fun x=>
 gC iV fun PD tl=>
 gI .i64 PD fun x1=>
 gN tl<|
 some (.dL (.cH []) (ao ch bT dx cE gq cr lN fA dN df bO bB fc cj lc x1 dm bU x lA))
noncomputable def vg:Nat→List MV→Option MV:=bn 110 (PC mf) Ed
theorem xJ:ap Tryz.prog cx vg:=La Ee 0 jf [] [(0,1000000)] 24 [] [] [] [(0,[0,1,2,3,4,5,6,7,8,9,10,11,12,13,14,15,16,17,18,19,20,21,22,23])] [] [] [] [] Tryz.func110 (by kernel_rfl) (by kernel_rfl) (qF fun _=>by kernel_rfl)
noncomputable def uD (b id span:MV):Option MV:=
 gA b fun cs=>
 Lb .i64 cs fun fE L=>
 gI .i64 id fun Lc=>
 gI .i64 span fun G3=>
 bd (fq (.agg [.i .i64 fE,.list L]) (.i .i64 Lc)) fun rA=>
 gT rA fun vs=>
 Mk .i64 vs fun x x1=>
 bd (
 bp (decide (Lc<1)) (
 some [.b true]) (
 bp (decide (G3<1)) (
 some [.b true]) (
 some [.b (decide ((1000:Int)<G3))]))) fun kO=>
 gC kO fun m4 nk=>
 gB m4 fun x2=>
 gN nk<|
 bp x2 (
 some (.cH [.agg [.i .i64 fE,.list L],.i .i64 1])) (
 bp x1 (
 some (.cH [.agg [.i .i64 fE,.list L],.i .i64 7])) (
 cB L fun len=>
 bp (decide ((50:Int)≤(len:Int))) (
 some (.cH [.agg [.i .i64 fE,.list L],.i .i64 9])) (
 both (
 bd (fD 3 24 [.list L]) fun aV=>
 gF aV fun xs=>
 bd (jn 24 [.fresh xs,.i .i64 x,.fresh ([.agg [.i .i64 Lc,.i .i64 G3,.i .i64 (IntKind.wrap .i64 (fE+G3))]]:List MV)]) fun cP=>
 gF cP fun Ir=>
 some (.cH [.agg [.i .i64 fE,.list Ir],.i .i64 0])) (
 bd (fD 3 24 [.list L]) fun mP=>
 gF mP fun XJ=>
 bd (jn 24 [.fresh XJ,.i .i64 x,.fresh ([.agg [.i .i64 Lc,.i .i64 G3,.i .i64 (IntKind.wrap .i64 (fE+G3))]]:List MV)]) fun Fy=>
 gF Fy fun xs3=>
 some (.cH [.agg [.i .i64 fE,.list xs3],.i .i64 0])))))
noncomputable def Ef:Nat→List MV→Option MV:=bn 176 (Fw uD) vg
theorem Eg:ap Tryz.prog cx Ef:=FE xJ [] [] 52 [] [] [] [(8,[0,1,3,4,5,6,7,8,9,10,2,11,12,13,14,0,1,3,4,5,6,7,8,9,10,11,2,12,13,14,2,11])] [(2,⟨[1,2,3,6,8,9],[],[],[(0,[(16,.sc (.k .b))])],[39,48,49]⟩)] [] [] [] Tryz.func176 (by kernel_rfl) (rQ (fun _ _ _=>by kernel_rfl))
noncomputable def mg (w:List MV):Option MV:=
 ax .i64 .i64 .i64 .i64 .i64 .i64 .i64 .i64 .i64 .i64 .i64 w fun ch bT dx cE gq cr lN fA dN df bO bB fc cj lc xE dm bU dn lA=>
 bd (uD (.agg [.i .i64 bT,.list dx]) (.i .i64 bB) (.i .i64 fc)) fun rA=>
 gT rA fun vs=>
 gC vs fun B5 iV=>
 gA B5 fun cs=>
 Lb .i64 cs fun fE L=>
 gC iV fun PE tm=>
 gI .i64 PE fun x=>
 gN tm<|
 some (.dL (.cH []) (ao ch fE L cE gq cr lN fA dN df bO bB fc cj lc x dm bU dn lA))
noncomputable def vh:Nat→List MV→Option MV:=bn 111 (PC mg) Ef
theorem xK:ap Tryz.prog cx vh:=La Eg 0 jf [] [(0,1000000)] 29 [] [] [] [(0,[0,1,2,3,4,5,6,7,8,9,10,11,12,13,14,15,16,17,18,19,20,21,22,23,24,25,26,27,28])] [] [] [] [] Tryz.func111 (by kernel_rfl) (by kernel_rfl) (qF fun _=>by kernel_rfl)
noncomputable def r6 (b id:MV):Option MV:=
 gA b fun cs=>
 Lb .i64 cs fun fE L=>
 gI .i64 id fun Lc=>
 bd (fq (.agg [.i .i64 fE,.list L]) (.i .i64 Lc)) fun rA=>
 gT rA fun vs=>
 Mk .i64 vs fun x x1=>
 bp (!x1) (
 some (.cH [.agg [.i .i64 fE,.list L],.i .i64 14])) (
 bd (fD 3 24 [.list L]) fun aV=>
 gF aV fun xs=>
 idx xs x fun y=>
 gA y fun gu=>
 B3 .i64 .i64 .i64 gu fun Id Span gz=>
 idx xs x fun y1=>
 gA y1 fun tL=>
 B3 .i64 .i64 .i64 tL fun Zv zE DW=>
 some (.cH [.agg [.i .i64 fE,.list (xs.set (Int.toNat x) (.agg [.i .i64 Zv,.i .i64 zE,.i .i64 (IntKind.wrap .i64 (fE+Span))]))],.i .i64 0]))
noncomputable def BH:Nat→List MV→Option MV:=bn 177 (fh r6) vh
theorem B8:ap Tryz.prog cx BH:=FE xK [] [] 36 [] [] [] [(5,[0,1,2,3,4,5,6,7,8,9,10,11,12,13,14])] [] [] [] [] Tryz.func177 (by kernel_rfl) (bu (fun _ _=>by kernel_rfl))
noncomputable def lg (w:List MV):Option MV:=
 ax .i64 .i64 .i64 .i64 .i64 .i64 .i64 .i64 .i64 .i64 .i64 w fun ch bT dx cE gq cr lN fA dN df bO bB fc cj lc xE dm bU dn lA=>
 bd (r6 (.agg [.i .i64 bT,.list dx]) (.i .i64 bB)) fun rA=>
 gT rA fun vs=>
 gC vs fun B5 iV=>
 gA B5 fun cs=>
 Lb .i64 cs fun fE L=>
 gC iV fun PE tm=>
 gI .i64 PE fun x=>
 gN tm<|
 some (.dL (.cH []) (ao ch fE L cE gq cr lN fA dN df bO bB fc cj lc x dm bU dn lA))
noncomputable def tx:Nat→List MV→Option MV:=bn 112 (PC lg) BH
theorem wI:ap Tryz.prog cx tx:=La B8 0 jf [] [(0,1000000)] 24 [] [] [] [(0,[0,1,2,3,4,5,6,7,8,9,10,11,12,13,14,15,16,17,18,19,20,21,22,23])] [] [] [] [] Tryz.func112 (by kernel_rfl) (by kernel_rfl) (qF fun _=>by kernel_rfl)
noncomputable def r7 (b id:MV):Option MV:=
 gA b fun cs=>
 Lb .i64 cs fun fE L=>
 gI .i64 id fun Lc=>
 bd (fq (.agg [.i .i64 fE,.list L]) (.i .i64 Lc)) fun rA=>
 gT rA fun vs=>
 Mk .i64 vs fun x x1=>
 bp (!x1) (
 some (.cH [.agg [.i .i64 fE,.list L],.i .i64 14])) (
 bd (fD 3 24 [.list L]) fun aV=>
 gF aV fun xs=>
 bd (n9 [.fresh xs,.i .i64 x,.i .i64 (IntKind.wrap .i64 (x+1))]) fun cP=>
 gF cP fun Ir=>
 some (.cH [.agg [.i .i64 fE,.list Ir],.i .i64 0]))
noncomputable def BI:Nat→List MV→Option MV:=bn 178 (fh r7) tx
theorem B9:ap Tryz.prog cx BI:=my wI [] 26 [] [] [] Tryz.func178 (by kernel_rfl) (bu (fun _ _=>by kernel_rfl))
noncomputable def uE (sA owner:MV):Option MV:=
 gA sA fun cs=>
 gC cs fun m iS=>
 gL m fun L=>
 gN iS<|
 gI .i64 owner fun AK=>
 cB L fun len=>
 bd (Loop (fun fV=>
 gC fV fun m1 ni=>
 gL m1 fun gone=>
 gC ni fun m2 pk=>
 gL m2 fun t=>
 gC pk fun m3 nk=>
 gI .i64 m3 fun x=>
 gN nk<|
 bp (decide (x<(len:Int))) (
 idx L x fun y=>
 gA y fun gu=>
 je .i64 .i64 gu fun Path Value Version bj=>
 bd (
 bp (decide ((0:Int)<AK)) (
 some [.b (decide (bj=AK))]) (
 some [.b false])) fun vs=>
 gC vs fun m8 Iq=>
 gB m8 fun x1=>
 gN Iq<|
 bp x1 (
 cB gone fun jU=>
 cB ([.s Path]:List MV) fun nY=>
 dy (decide ((jU+nY) *16≤2^46))<|
 some (.inl [.list (gone++([.s Path]:List MV)),.list t,.i .i64 (IntKind.wrap .i64 (x+1))])) (
 cB t fun DZ=>
 cB ([.agg (nD Path Value Version bj)]:List MV) fun Ml=>
 dy (decide ((DZ+Ml) *48≤2^46))<|
 some (.inl [.list gone,.list (t++([.agg (nD Path Value Version bj)]:List MV)),.i .i64 (IntKind.wrap .i64 (x+1))]))) (
 some (.inr (2,[.list gone,.list t])))) [.list ([]:List MV),.list ([]:List MV),.i .i64 0]) fun p=>
 dy (Nat.beq p.1 2)<|
 gC p.2 fun m9 tj=>
 gL m9 fun Tf=>
 gC tj fun Pp qG=>
 gL Pp fun t1=>
 gN qG<|
 some (.cH [.agg [.list t1],.list Tf])
noncomputable def Eh:Nat→List MV→Option MV:=bn 228 (fh uE) BI
theorem Ei:ap Tryz.prog cx Eh:=FE B9 [] [] 40 [29,34] [] [] [] [(6,⟨[1,4,6,7,9,12,13,14],[30,35],[],[(0,[(25,.sc (.k .b))])],[29,30,34,35]⟩)] [] [(4,⟨[1,4,12,13],[],[(6,.sc (.own 30 9 true)),(7,.box [.own 35 98 true]),(14,.sc (.k (.i .i64)))],[(2,[(6,.sc (.own 30 9 true)),(7,.box [.own 35 98 true])])],[29,30,34,35]⟩)] [] Tryz.func228 (by kernel_rfl) (bu (fun _ _=>by kernel_rfl))
noncomputable def jN (w:List MV) (id:MV):Option MV:=
 gI .i64 id fun Lc=>
 ax .i64 .i64 .i64 .i64 .i64 .i64 .i64 .i64 .i64 .i64 .i64 w fun ch bT dx cE gq cr lN fA dN df bO bB fc cj lc xE dm bU dn lA=>
 bd (uE (.agg [.list ch]) (.i .i64 Lc)) fun rA=>
 gT rA fun vs=>
 gC vs fun B5 iV=>
 gA B5 fun cs=>
 gC cs fun PD tl=>
 gL PD fun L=>
 gN tl<|
 gC iV fun Ta wA=>
 gL Ta fun x=>
 gN wA<|
 cB x fun len=>
 bd (Loop (fun tm=>
 gC tm fun PE Kl=>
 gI .i64 PE fun x1=>
 ax .i64 .i64 .i64 .i64 .i64 .i64 .i64 .i64 .i64 .i64 .i64 Kl fun x2 x3 x4 x5 x6 x7 x8 x9 B4 DM DN DO DP DQ Fz FA FB FC NZ xs=>
 bp (decide (x1<(len:Int))) (
 idx x x1 fun y=>
 gS y fun Qx=>
 cB xs fun jU=>
 cB ([.agg [.i .i64 3,.s Qx]]:List MV) fun nY=>
 dy (decide ((jU+nY) *24≤2^46))<|
 some (.inl [.i .i64 (IntKind.wrap .i64 (x1+1)),.list x2,.i .i64 x3,.list x4,.list x5,.list x6,.i .i64 x7,.i .i64 x8,.i .i64 x9,.s B4,.s DM,.i .i64 DN,.i .i64 DO,.i .i64 DP,.i .i64 DQ,.i .i64 Fz,.i .i64 FA,.s FB,.i .i64 FC,.list NZ,.list (xs++([.agg [.i .i64 3,.s Qx]]:List MV))])) (
 some (.inr (2,(ao x2 x3 x4 x5 x6 x7 x8 x9 B4 DM DN DO DP DQ Fz FA FB FC NZ xs))))) [.i .i64 0,.list L,.i .i64 bT,.list dx,.list cE,.list gq,.i .i64 cr,.i .i64 lN,.i .i64 fA,.s dN,.s df,.i .i64 bO,.i .i64 bB,.i .i64 fc,.i .i64 cj,.i .i64 lc,.i .i64 xE,.s dm,.i .i64 bU,.list dn,.list lA]) fun p=>
 dy (Nat.beq p.1 2)<|
 ax .i64 .i64 .i64 .i64 .i64 .i64 .i64 .i64 .i64 .i64 .i64 p.2 fun XI Zt Zu x25 x26 x27 x28 x29 x30 x31 x32 x33 x34 x35 x36 x37 x38 x39 x40 Ir=>
 some (.dL (.cH []) (ao XI Zt Zu x25 x26 x27 x28 x29 x30 x31 x32 x33 x34 x35 x36 x37 x38 x39 x40 Ir))
noncomputable def vi:Nat→List MV→Option MV:=bn 179 (cl2 jN) Eh
theorem xL:ap Tryz.prog cx vi:=La Ei 0 jf [] [(0,1000000)] 41 [36] [] [] [] [] [] [(3,⟨[0,23,24],[],[(25,.sc (.k (.i .i64))),(1000000,.box [.k .l,.k (.i .i64),.k .l,.k .l,.k .l,.k (.i .i64),.k (.i .i64),.k (.i .i64),.k .s,.k .s,.k (.i .i64),.k (.i .i64),.k (.i .i64),.k (.i .i64),.k (.i .i64),.k (.i .i64),.k .s,.k (.i .i64),.k .l,.own 2000019 77 false])],[(2,[(1000000,.box [.k .l,.k (.i .i64),.k .l,.k .l,.k .l,.k (.i .i64),.k (.i .i64),.k (.i .i64),.k .s,.k .s,.k (.i .i64),.k (.i .i64),.k (.i .i64),.k (.i .i64),.k (.i .i64),.k (.i .i64),.k .s,.k (.i .i64),.k .l,.own 2000019 77 false])])],[36]⟩)] [] Tryz.func179 (by kernel_rfl) (by kernel_rfl) (S7 fun _ _=>by kernel_rfl)
noncomputable def lh (w:List MV):Option MV:=
 ax .i64 .i64 .i64 .i64 .i64 .i64 .i64 .i64 .i64 .i64 .i64 w fun ch bT dx cE gq cr lN fA dN df bO bB fc cj lc xE dm bU dn lA=>
 bd (r7 (.agg [.i .i64 bT,.list dx]) (.i .i64 bB)) fun rA=>
 gT rA fun vs=>
 gC vs fun B5 iV=>
 gA B5 fun cs=>
 Lb .i64 cs fun fE L=>
 gC iV fun PE tm=>
 gI .i64 PE fun x=>
 gN tm<|
 bd (
 bp (decide (x=0)) (
 bd (jN (ao ch fE L cE gq cr lN fA dN df bO bB fc cj lc x dm bU dn lA) (.i .i64 bB)) fun aV=>
 gW aV fun x1 ls=>
 ax .i64 .i64 .i64 .i64 .i64 .i64 .i64 .i64 .i64 .i64 .i64 ls fun kH jP od lP sG lQ yh sH qO oe jQ jR sI lR yi Tc oh lf ol Kh=>
 some (0,(ao kH jP od lP sG lQ yh sH qO oe jQ jR sI lR yi Tc oh lf ol Kh))) (
 some (0,(ao ch fE L cE gq cr lN fA dN df bO bB fc cj lc x dm bU dn lA)))) fun p=>
 dy (Nat.beq p.1 0)<|
 ax .i64 .i64 .i64 .i64 .i64 .i64 .i64 .i64 .i64 .i64 .i64 p.2 fun x2 x3 x4 x5 x6 x7 x8 x9 B4 DM DN DO DP DQ Fz FA FB FC NZ xs=>
 some (.dL (.cH []) (ao x2 x3 x4 x5 x6 x7 x8 x9 B4 DM DN DO DP DQ Fz FA FB FC NZ xs))
noncomputable def tz:Nat→List MV→Option MV:=bn 113 (PC lh) vi
theorem wJ:ap Tryz.prog cx tz:=La xL 0 jf [] [(0,1000000)] 37 [] [] [] [(0,[0,1,2,3,4,5,6,7,8,9,10,11,12,13,14,15,16,17,18,19,20,21,22,23])] [] [(2,⟨[0],[],[],[(0,[(1000000,.box [.k .l,.k (.i .i64),.k .l,.k .l,.k .l,.k (.i .i64),.k (.i .i64),.k (.i .i64),.k .s,.k .s,.k (.i .i64),.k (.i .i64),.k (.i .i64),.k (.i .i64),.k (.i .i64),.k (.i .i64),.k .s,.k (.i .i64),.k .l,.own 2000019 77 false])])],[]⟩)] [] [] Tryz.func113 (by kernel_rfl) (by kernel_rfl) (qF fun _=>by kernel_rfl)
noncomputable def uF (b now:MV):Option MV:=
 gA b fun cs=>
 Lb .i64 cs fun fE L=>
 gI .i64 now fun V7=>
 bp (decide (V7<fE)) (
 some (.cH [.agg [.i .i64 fE,.list L],.list ([]:List MV),.i .i64 15])) (
 bp (decide ((1000000000:Int)<V7)) (
 some (.cH [.agg [.i .i64 fE,.list L],.list ([]:List MV),.i .i64 5])) (
 cB L fun len=>
 bd (Loop (fun ni=>
 gC ni fun m2 pk=>
 gL m2 fun gone=>
 gC pk fun m3 nk=>
 gI .i64 m3 fun out=>
 gC nk fun m4 pn=>
 gL m4 fun PF=>
 gC pn fun m5 qM=>
 gI .i64 m5 fun x=>
 gN qM<|
 bp (decide (x<(len:Int))) (
 idx L x fun y=>
 gA y fun gu=>
 B3 .i64 .i64 .i64 gu fun Id Span gz=>
 bp (decide (gz≤V7)) (
 cB gone fun jU=>
 cB ([.i .i64 Id]:List MV) fun nY=>
 dy (decide ((jU+nY) *8≤2^46))<|
 some (.inl [.list (gone++([.i .i64 Id]:List MV)),.i .i64 out,.list PF,.i .i64 (IntKind.wrap .i64 (x+1))])) (
 cB PF fun DZ=>
 cB ([.agg [.i .i64 Id,.i .i64 Span,.i .i64 gz]]:List MV) fun Ml=>
 dy (decide ((DZ+Ml) *24≤2^46))<|
 some (.inl [.list gone,.i .i64 out,.list (PF++([.agg [.i .i64 Id,.i .i64 Span,.i .i64 gz]]:List MV)),.i .i64 (IntKind.wrap .i64 (x+1))]))) (
 some (.inr (3,[.list gone,.i .i64 out,.list PF])))) [.list ([]:List MV),.i .i64 V7,.list ([]:List MV),.i .i64 0]) fun p=>
 dy (Nat.beq p.1 3)<|
 gC p.2 fun m9 tj=>
 gL m9 fun Tf=>
 Lb .i64 tj fun agm agn=>
 some (.cH [.agg [.i .i64 agm,.list agn],.list Tf,.i .i64 0])))
noncomputable def Ej:Nat→List MV→Option MV:=bn 180 (fh uF) tz
theorem Ek:ap Tryz.prog cx Ej:=FE wJ [] [] 48 [37,42] [] [] [] [] [] [(8,⟨[1,4,24,25],[],[(7,.sc (.own 38 3 true)),(8,.box [.k (.i .i64),.own 43 126 true]),(26,.sc (.k (.i .i64)))],[(3,[(7,.sc (.own 38 3 true)),(8,.box [.k (.i .i64),.own 43 126 true])])],[37,38,42,43]⟩)] [] Tryz.func180 (by kernel_rfl) (bu (fun _ _=>by kernel_rfl))
noncomputable def mh (w:List MV):Option MV:=
 ax .i64 .i64 .i64 .i64 .i64 .i64 .i64 .i64 .i64 .i64 .i64 w fun ch bT dx cE gq cr lN fA dN df bO bB fc cj lc xE dm bU dn lA=>
 bd (uF (.agg [.i .i64 bT,.list dx]) (.i .i64 fc)) fun rA=>
 gT rA fun vs=>
 gC vs fun B5 iV=>
 gA B5 fun cs=>
 Lb .i64 cs fun fE L=>
 gC iV fun PE tm=>
 gL PE fun x=>
 gC tm fun m24 Kl=>
 gI .i64 m24 fun x1=>
 gN Kl<|
 bp (!decide (x1=0)) (
 some (.dL (.cH []) (ao ch bT dx cE gq cr lN fA dN df bO bB fc cj lc x1 dm bU dn lA))) (
 cB x fun len=>
 bd (Loop (fun DU=>
 gC DU fun V4 Km=>
 gI .i64 V4 fun x2=>
 ax .i64 .i64 .i64 .i64 .i64 .i64 .i64 .i64 .i64 .i64 .i64 Km fun x3 x4 x5 x6 x7 x8 x9 B4 DM DN DO DP DQ Fz FA FB FC NZ Qx xs=>
 bp (decide (x2<(len:Int))) (
 idx x x2 fun y=>
 gI .i64 y fun XI=>
 bd (jN (ao x3 x4 x5 x6 x7 x8 x9 B4 DM DN DO DP DQ Fz FA FB FC NZ Qx xs) (.i .i64 XI)) fun aV=>
 gW aV fun Zt ls=>
 ax .i64 .i64 .i64 .i64 .i64 .i64 .i64 .i64 .i64 .i64 .i64 ls fun kH jP od lP sG lQ yh sH qO oe jQ jR sI lR yi Tc oh lf ol Kh=>
 some (.inl [.i .i64 (IntKind.wrap .i64 (x2+1)),.list kH,.i .i64 jP,.list od,.list lP,.list sG,.i .i64 lQ,.i .i64 yh,.i .i64 sH,.s qO,.s oe,.i .i64 jQ,.i .i64 jR,.i .i64 sI,.i .i64 lR,.i .i64 yi,.i .i64 Tc,.s oh,.i .i64 lf,.list ol,.list Kh])) (
 some (.inr (2,(ao x3 x4 x5 x6 x7 x8 x9 B4 DM DN DO DP DQ Fz FA FB FC NZ Qx xs))))) [.i .i64 0,.list ch,.i .i64 fE,.list L,.list cE,.list gq,.i .i64 cr,.i .i64 lN,.i .i64 fA,.s dN,.s df,.i .i64 bO,.i .i64 bB,.i .i64 fc,.i .i64 cj,.i .i64 lc,.i .i64 x1,.s dm,.i .i64 fE,.list dn,.list lA]) fun p=>
 dy (Nat.beq p.1 2)<|
 ax .i64 .i64 .i64 .i64 .i64 .i64 .i64 .i64 .i64 .i64 .i64 p.2 fun Zu x25 x26 x27 x28 x29 x30 x31 x32 x33 x34 x35 x36 x37 x38 x39 x40 x41 x42 Ir=>
 some (.dL (.cH []) (ao Zu x25 x26 x27 x28 x29 x30 x31 x32 x33 x34 x35 x36 x37 x38 x39 x40 x41 x42 Ir)))
noncomputable def vj:Nat→List MV→Option MV:=bn 114 (PC mh) Ej
theorem xM:ap Tryz.prog cx vj:=La Ek 0 jf [] [(0,1000000)] 50 [] [33] [(1,[2])] [(0,[0,1,2,3,4,5,6,7,8,9,10,11,12,13,14,15,16,17,18]),(3,[0,1,2,3,4,5,6,7,8,9,10,11,12])] [] [] [(5,⟨[0,40,41],[],[(42,.sc (.k (.i .i64))),(1000000,.box [.k .l,.k (.i .i64),.k .l,.k .l,.k .l,.k (.i .i64),.k (.i .i64),.k (.i .i64),.k .s,.k .s,.k (.i .i64),.k (.i .i64),.k (.i .i64),.k (.i .i64),.k (.i .i64),.k (.i .i64),.k .s,.k (.i .i64),.k .l,.own 2000019 77 false])],[(2,[(1000000,.box [.k .l,.k (.i .i64),.k .l,.k .l,.k .l,.k (.i .i64),.k (.i .i64),.k (.i .i64),.k .s,.k .s,.k (.i .i64),.k (.i .i64),.k (.i .i64),.k (.i .i64),.k (.i .i64),.k (.i .i64),.k .s,.k (.i .i64),.k .l,.own 2000019 77 false])])],[]⟩)] [] Tryz.func114 (by kernel_rfl) (by kernel_rfl) (qF fun _=>by kernel_rfl)
noncomputable def fK (sA v:MV):Option MV:=
 gL sA fun pH=>
 gA v fun cs=>
 FD .i64 cs fun Path Client Kids=>
 cB pH fun len=>
 bd (Loop (fun pk=>
 gC pk fun m3 nk=>
 gI .i64 m3 fun x=>
 gN nk<|
 bp (decide (x<(len:Int))) (
 idx pH x fun y=>
 gA y fun gu=>
 FD .i64 gu fun iT fI Tg=>
 bp ((decide (Path=iT))&&((decide (Client=fI))&&(decide (Kids=Tg)))) (
 some (.inr (1,[.i .i64 x]))) (
 some (.inl [.i .i64 (IntKind.wrap .i64 (x+1))]))) (
 some (.inr (2,[])))) [.i .i64 0]) fun p=>
 bp (Nat.beq p.1 2) (
 gN p.2<|
 some (.i .i64 (-1))) (
 dy (Nat.beq p.1 1)<|
 gC p.2 fun m7 sC=>
 gI .i64 m7 fun x1=>
 gN sC<|
 some (.i .i64 x1))
noncomputable def np:Nat→List MV→Option MV:=bn 250 (fh fK) vj
theorem qS:ap Tryz.prog cx np:=FE xM [] [] 19 [] [] [] [(4,[0,1,2,3,4,5])] [] [] [(2,⟨[0,3,7],[],[(8,.sc (.k (.i .i64)))],[(1,[(4,.sc (.k (.i .i64)))]),(2,[])],[]⟩)] [] Tryz.func250 (by kernel_rfl) (bu (fun _ _=>by kernel_rfl))
noncomputable def ee (sA v:MV):Option MV:=
 gL sA fun pH=>
 gA v fun cs=>
 FD .i64 cs fun Path Client Kids=>
 bd (fK (.list pH) (.agg [.s Path,.i .i64 Client,.b Kids])) fun rA=>
 gI .i64 rA fun x=>
 some (.b (decide ((0:Int)≤x)))
noncomputable def ln:Nat→List MV→Option MV:=bn 229 (fh ee) np
theorem oW:ap Tryz.prog cx ln:=my qS [] 9 [] [] [] Tryz.func229 (by kernel_rfl) (bu (fun _ _=>by kernel_rfl))
noncomputable def xn (t w:MV):Option MV:=
 gA t fun cs=>
 gC cs fun m iS=>
 gL m fun L=>
 gN iS<|
 gA w fun gu=>
 FD .i64 gu fun Path Client Kids=>
 bd (iv (.s Path)) fun rA=>
 gB rA fun x=>
 bp (!x) (
 some (.cH [.agg [.list L],.i .i64 13])) (
 bp (decide (Client<0)) (
 some (.cH [.agg [.list L],.i .i64 1])) (
 bd (ee (.list L) (.agg [.s Path,.i .i64 Client,.b Kids])) fun aV=>
 gB aV fun x1=>
 bp x1 (
 some (.cH [.agg [.list L],.i .i64 0])) (
 cB L fun len=>
 bp (decide ((200:Int)≤(len:Int))) (
 some (.cH [.agg [.list L],.i .i64 9])) (
 both (
 bd (fD 3 32 [.list L]) fun cP=>
 gF cP fun xs=>
 cB xs fun jU=>
 cB ([.agg [.s Path,.i .i64 Client,.b Kids]]:List MV) fun nY=>
 dy (decide ((jU+nY) *32≤2^46))<|
 some (.cH [.agg [.list (xs++([.agg [.s Path,.i .i64 Client,.b Kids]]:List MV))],.i .i64 0])) (
 bd (fD 3 32 [.list L]) fun mP=>
 gF mP fun Ir=>
 cB Ir fun DZ=>
 cB ([.agg [.s Path,.i .i64 Client,.b Kids]]:List MV) fun Ml=>
 dy (decide ((DZ+Ml) *32≤2^46))<|
 some (.cH [.agg [.list (Ir++([.agg [.s Path,.i .i64 Client,.b Kids]]:List MV))],.i .i64 0]))))))
noncomputable def G4:Nat→List MV→Option MV:=bn 181 (fh xn) ln
theorem FK:ap Tryz.prog cx G4:=FE oW [] [] 36 [33] [] [] [(9,[0,1,3,2,4,5,6,7,8,0,1,3,4,2,5,6,7,8,2,4])] [] [] [] [] Tryz.func181 (by kernel_rfl) (bu (fun _ _=>by kernel_rfl))
noncomputable def li (w:List MV):Option MV:=
 ax .i64 .i64 .i64 .i64 .i64 .i64 .i64 .i64 .i64 .i64 .i64 w fun ch bT dx cE gq cr lN fA dN df bO bB fc cj lc xE dm bU dn lA=>
 bd (xn (.agg [.list cE]) (.agg [.s dN,.i .i64 cr,.b (decide (fA=11))])) fun rA=>
 gT rA fun vs=>
 gC vs fun B5 iV=>
 gA B5 fun cs=>
 gC cs fun PD tl=>
 gL PD fun L=>
 gN tl<|
 gC iV fun Ta wA=>
 gI .i64 Ta fun x=>
 gN wA<|
 some (.dL (.cH []) (ao ch bT dx L gq cr lN fA dN df bO bB fc cj lc x dm bU dn lA))
noncomputable def tA:Nat→List MV→Option MV:=bn 115 (PC li) G4
theorem wK:ap Tryz.prog cx tA:=La FK 0 jf [] [(0,1000000)] 38 [] [] [] [(0,[0,1,2,3,4,5,6,7,8,9,10,11,12,13,14,15,16,17,18]),(1,[0,1,2,3,4,5,6,7,8,9,10,11,12,13,14,15,16,17,18,19])] [] [] [] [] Tryz.func115 (by kernel_rfl) (by kernel_rfl) (qF fun _=>by kernel_rfl)
noncomputable def uG:Option MV:=
 some (.list ([.func 105 [],.func 106 [],.func 107 [],.func 108 [],.func 109 [],.func 110 [],.func 111 [],.func 112 [],.func 113 [],.func 114 [],.func 115 [],.func 115 []]:List MV))
noncomputable def El:Nat→List MV→Option MV:=bn 59 (Mg uG) tA
theorem Em:ap Tryz.prog cx El:=my wK [] 2 [] [] [] Tryz.func59 (by kernel_rfl) (zB (by kernel_rfl))
noncomputable def om (c w:MV):Option MV:=
 gA c fun cs=>
 gC cs fun m iS=>
 gI .i64 m fun Kind=>
 gC iS fun m1 fV=>
 gS m1 fun Path=>
 gN fV<|
 gA w fun gu=>
 FD .i64 gu fun iT Client Kids=>
 bd (
 bp (decide (Kind<1)) (
 some [.b true]) (
 bp (decide ((3:Int)<Kind)) (
 some [.b true]) (
 bd (iv (.s Path)) fun rA=>
 gB rA fun x=>
 some [.b (!x)]))) fun vs=>
 gC vs fun m5 pn=>
 gB m5 fun x1=>
 gN pn<|
 bp x1 (
 some (.b false)) (
 bp (!Kids) (
 some (.b (decide (Path=iT)))) (
 bd (mL (.s Path)) fun aV=>
 gT aV fun kO=>
 gC kO fun m6 qM=>
 gS m6 fun x2=>
 gC qM fun m7 uz=>
 gI .i64 m7 fun x3=>
 gN uz<|
 bd (
 bp (decide (x3=0)) (
 bp (!decide (Kind=2)) (
 some [.b (decide (x2=iT))]) (
 some [.b false])) (
 some [.b false])) fun rf=>
 gC rf fun m8 sC=>
 gB m8 fun x4=>
 gN sC<|
 some (.b x4)))
noncomputable def oo:Nat→List MV→Option MV:=bn 27 (fh om) El
theorem zL:ap Tryz.prog cx oo:=my Em [] 48 [(6,⟨[2,3,5,6],[],[],[(0,[(4,.sc (.k .b))])],[]⟩),(1,⟨[2,3],[],[],[(0,[(20,.sc (.k .b))])],[]⟩)] [] [] Tryz.func27 (by kernel_rfl) (bu (fun _ _=>by kernel_rfl))
noncomputable def yl:Ctx:=VP oo [(2,1000002)] 17 [14] [] [] [] [] [(3,⟨[1,2,3,5],[],[],[(0,[(1000002,.box [.own 2000000 79 false])])],[14]⟩)] [] []
noncomputable def nq (w:MV) (c:MV) (c1:List MV):Option MV:=
 gA w fun cs=>
 FD .i64 cs fun Path Client Kids=>
 gP c fun gu=>
 gC gu fun m3 pk=>
 gI .i64 m3 fun Kind=>
 gC pk fun m4 nk=>
 gS m4 fun iT=>
 gN nk<|
 gC c1 fun m5 pn=>
 gL m5 fun x=>
 gN pn<|
 bd (om (.agg [.i .i64 Kind,.s iT]) (.agg [.s Path,.i .i64 Client,.b Kids])) fun rA=>
 gB rA fun x1=>
 bd (
 bp x1 (
 cB x fun len=>
 cB ([.agg [.s Path,.i .i64 Client,.b Kids,.i .i64 Kind,.s iT]]:List MV) fun jU=>
 dy (decide ((len+jU) *56≤2^46))<|
 some (0,[.list (x++([.agg [.s Path,.i .i64 Client,.b Kids,.i .i64 Kind,.s iT]]:List MV))])) (
 some (0,[.list x]))) fun p=>
 dy (Nat.beq p.1 0)<|
 gC p.2 fun m6 qM=>
 gL m6 fun xs=>
 gN qM<|
 some (.dL (.b x1) [.list xs])
theorem Ca (w:MV) (c:MV) (c1:List MV):F9 yl [[.i .i64,.s],[]] 2 NY Tryz.f118 [w,c,.cell (.func 0 c1)]=nq w c c1:=by kernel_rfl
noncomputable abbrev uH:List MV→Option MV:=fun ms=>match ms with|[a0,a1,.cell (.func off a2)]=>(match Nat.beq off 0 with|true=>nq a0 a1 a2|false=>none)|_=>none
theorem Cb {ms:List MV} {r:MV} (h:uH ms=some r): ∃c':Ctx,zw cx c'∧c'.g=oo∧NI c' 118 Tryz.f118 [[.i .i64,.s],[]]=true∧F9 c' [[.i .i64,.s],[]] 2 NY Tryz.f118 ms=some r:=by
 unfold uH at h
 split at h
 ·rename_i a0 a1 off a2
  cases ho0:Nat.beq off 0 with
  |true=>
   have:=Nat.eq_of_beq_eq_true ho0
   subst this
   exact ⟨yl,⟨rfl,rfl,rfl,rfl,rfl,rfl,rfl,rfl,rfl⟩,rfl,by kernel_rfl,(Ca _ _ _).trans h⟩
  |false=>
  rw [ho0] at h
  simp only at h
  cases h
 ·cases h
noncomputable def uI:Nat→List MV→Option MV:=bn 118 uH oo
theorem AN:ap Tryz.prog cx uI:=
 zL.La (pos:=2) (ks:=NY) (bS:=[[.i .i64,.s],[]]) nW SV SZ S3 wm Ip Tryz.func118 (by kernel_rfl) (fun _=>rfl) Cb
noncomputable def zM:Nat→List MV→Option MV:=uI
theorem uJ (x0:MV) (x1:MV) (x2:List MV):zM 118 [x0,x1,.cell (.func 0 x2)]=nq x0 x1 x2:=by kernel_rfl
noncomputable def uK (t lA:MV):Option MV:=
 gA t fun cs=>
 gC cs fun m iS=>
 gL m fun L=>
 gN iS<|
 gL lA fun Kh=>
 bd (fD 3 32 [.list L]) fun rA=>
 gF rA fun xs=>
 cB Kh fun len=>
 bd (Loop (fun fV=>
 gC fV fun m1 ni=>
 gL m1 fun left=>
 gC ni fun m2 pk=>
 gL m2 fun out=>
 gC pk fun m3 nk=>
 gI .i64 m3 fun x=>
 gN nk<|
 bp (decide (x<(len:Int))) (
 idx Kh x fun y=>
 gA y fun gu=>
 gC gu fun m4 pn=>
 gI .i64 m4 fun Kind=>
 gC pn fun m5 qM=>
 gS m5 fun Path=>
 gN qM<|
 dy (left.all Lk)<|
 bd (lF (F8 zM 118 [.rp [.i .i64 Kind,.s Path]]) [.list out] left) fun aV=>
 gC aV.2 fun m6 uz=>
 gL m6 fun x1=>
 gN uz<|
 some (.inl [.list aV.1,.list x1,.i .i64 (IntKind.wrap .i64 (x+1))])) (
 some (.inr (2,[.list left,.list out])))) [.list xs,.list ([]:List MV),.i .i64 0]) fun p=>
 dy (Nat.beq p.1 2)<|
 gC p.2 fun m7 sC=>
 gL m7 fun adl=>
 gC sC fun m8 Iq=>
 gL m8 fun PF=>
 gN Iq<|
 some (.cH [.agg [.list adl],.list PF])
noncomputable def yL:Nat→List MV→Option MV:=bn 60 (fh uK) uI
theorem En:ap Tryz.prog cx yL:=FE AN [] [] 26 [] [25] [(8,[7])] [(8,[0,1,2,3,4])] [] [] [(4,⟨[4,13,14],[],[(6,.sc (.own 12 75 false)),(7,.box [.own 2000000 79 false]),(15,.sc (.k (.i .i64)))],[(2,[(6,.sc (.own 12 75 false)),(7,.box [.own 2000000 79 false])])],[]⟩)] [] Tryz.func60 (by kernel_rfl) (bu (fun _ _=>by kernel_rfl))
noncomputable def cM:Nat→List MV→Option MV:=yL
theorem oX (x0:List MV):cM 105 [.cell (.func 0 x0)]=jt x0:=by kernel_rfl
theorem pu (x0:List MV):cM 106 [.cell (.func 0 x0)]=kc x0:=by kernel_rfl
theorem rl (x0:List MV):cM 107 [.cell (.func 0 x0)]=nm x0:=by kernel_rfl
theorem rm (x0:List MV):cM 108 [.cell (.func 0 x0)]=nn x0:=by kernel_rfl
theorem pv (x0:List MV):cM 109 [.cell (.func 0 x0)]=ke x0:=by kernel_rfl
theorem qT (x0:List MV):cM 110 [.cell (.func 0 x0)]=mf x0:=by kernel_rfl
theorem qU (x0:List MV):cM 111 [.cell (.func 0 x0)]=mg x0:=by kernel_rfl
theorem pV (x0:List MV):cM 112 [.cell (.func 0 x0)]=lg x0:=by kernel_rfl
theorem pW (x0:List MV):cM 113 [.cell (.func 0 x0)]=lh x0:=by kernel_rfl
theorem qV (x0:List MV):cM 114 [.cell (.func 0 x0)]=mh x0:=by kernel_rfl
theorem pX (x0:List MV):cM 115 [.cell (.func 0 x0)]=li x0:=by kernel_rfl
noncomputable def mM (a a1:MV):Option MV:=
 gA a fun cs=>
 nX .i64 cs fun kF gY oR kG Seen=>
 gA a1 fun gu=>
 kY .i64 .i64 .i64 .i64 .i64 .i64 gu fun Client Seq Kind Path Value Version Session Span=>
 bd (kZ (.agg (lC kF gY oR kG Seen)) (.agg (eC Client Seq Kind Path Value Version Session Span))) fun rA=>
 gT rA fun vs=>
 gC vs fun VO DT=>
 gA VO fun tL=>
 fH .i64 .i64 .i64 .i64 tL fun fI wo E fm cm Names=>
 gC DT fun B5 iV=>
 gB B5 fun x=>
 gN iV<|
 bp x (
 some (.cH [.agg (lC kF gY oR kG Seen),.agg (j0 fI wo E fm cm Names),.list ([]:List MV)])) (
 bd (uG) fun aV=>
 gL aV fun x1=>
 idx x1 Kind fun y=>
 gR y fun x2=>
 K3 x2 fun fn cap=>
 gN cap<|
 bd (Fb [105,106,107,108,109,110,111,112,113,114,115] fn fun k=>cM k [.cell (.func 0 (ao kF gY oR kG Seen Client Seq Kind Path Value Version Session Span fI wo E fm cm Names ([]:List MV)))]) fun cP=>
 gW cP fun x3 ls=>
 ax .i64 .i64 .i64 .i64 .i64 .i64 .i64 .i64 .i64 .i64 .i64 ls fun ch bT dx cE gq cr lN fA dN df bO bB fc cj lc xE dm bU dn lA=>
 bd (uK (.agg [.list cE]) (.list lA)) fun mP=>
 gT mP fun kO=>
 gC kO fun m41 DV=>
 gA m41 fun qm=>
 gC qm fun m42 Ko=>
 gL m42 fun L=>
 gN Ko<|
 gC DV fun m43 Kp=>
 gL m43 fun x4=>
 gN Kp<|
 bd (fD 6 72 [.list Seen]) fun Fy=>
 gF Fy fun xs=>
 bd (iU (.agg (lC kF gY oR kG Seen)) (.i .i64 Client)) fun Mj=>
 gT Mj fun rf=>
 Mk .i64 rf fun x5 x6=>
 bd (
 bp x6 (
 idx xs x5 fun y1=>
 gA y1 fun V6=>
 fH .i64 .i64 .i64 .i64 V6 fun V8 adm E1 Is wG yH=>
 some (0,(ao ch bT dx L (xs.set (Int.toNat x5) (.agg (j0 cj lc xE dm bU dn))) cr lN fA dN df bO bB fc cj lc xE dm bU dn lA))) (
 bd (jn 72 [.fresh xs,.i .i64 x5,.fresh ([.agg (j0 cj lc xE dm bU dn)]:List MV)]) fun VM=>
 gF VM fun Ir=>
 some (0,(ao ch bT dx L Ir cr lN fA dN df bO bB fc cj lc xE dm bU dn lA)))) fun p=>
 dy (Nat.beq p.1 0)<|
 ax .i64 .i64 .i64 .i64 .i64 .i64 .i64 .i64 .i64 .i64 .i64 p.2 fun x7 x8 x9 B4 XJ DM DN DO DP DQ Fz FA FB FC NZ Qx XI Zt Zu xs3=>
 both (
 some (.cH [.agg (lC x7 x8 x9 B4 XJ),.agg (j0 FC NZ Qx XI Zt Zu),.list x4])) (
 some (.cH [.agg (lC x7 x8 x9 B4 XJ),.agg (j0 FC NZ Qx XI Zt Zu),.list x4])))
noncomputable def BJ:Nat→List MV→Option MV:=bn 18 (fh mM) yL
theorem Cc:ap Tryz.prog cx BJ:=FE En [] [] 103 [] [21] [(2,[7])] [(3,[0,1,2,3,4]),(5,[1,2,5,0,3,4,6]),(6,[0,1,2,3,4,5,6,7,8,9,10,11,12,13,14,15]),(7,[0,1,2,3,4,5,6,7,8,9,10,11,12,13]),(10,[0,1,2,3,4,5,6,7,8,9,10,11]),(11,[0,1,2,3,4,5,6,7,8,9,10,11,12,13,14,15,16]),(12,[0,1,2,3,4,5,6,8,9,7,10,11,0,1,2,3,4,5,6,7,8,9,10,11,9,7])] [] [(10,⟨[4,5,11,12],[],[],[(0,[(26,.box [.k .l,.k (.i .i64),.k .l,.k .l,.own 52 57 false,.k (.i .i64),.k (.i .i64),.k (.i .i64),.k .s,.k .s,.k (.i .i64),.k (.i .i64),.k (.i .i64),.k (.i .i64),.k (.i .i64),.k (.i .i64),.k .s,.k (.i .i64),.k .l,.own 2000019 77 true]),(9,.pt 26 0)])],[89,90,2000019]⟩)] [] [105,106,107,108,109,110,111,112,113,114,115] Tryz.func18 (by kernel_rfl) (bu (fun _ _=>by kernel_rfl))
noncomputable def xp:Option MV:=
 some (.agg [.list ([.agg (nD ([47]:List UInt8) ([]:List UInt8) 0 0)]:List MV)])
noncomputable def G5:Nat→List MV→Option MV:=bn 71 (Mg xp) BJ
theorem FL:ap Tryz.prog cx G5:=my Cc [] 4 [] [] [] Tryz.func71 (by kernel_rfl) (zB (by kernel_rfl))
noncomputable def xq:Option MV:=
 some (.agg [.i .i64 0,.list ([]:List MV)])
noncomputable def G6:Nat→List MV→Option MV:=bn 72 (Mg xq) G5
theorem FM:ap Tryz.prog cx G6:=my FL [] 2 [] [] [] Tryz.func72 (by kernel_rfl) (zB (by kernel_rfl))
noncomputable def tB:Option MV:=
 bd (xp) fun rA=>
 gA rA fun cs=>
 gC cs fun m iS=>
 gL m fun L=>
 gN iS<|
 bd (xq) fun aV=>
 gA aV fun gu=>
 Lb .i64 gu fun fE L1=>
 some (.agg (lC L fE L1 ([]:List MV) ([]:List MV)))
noncomputable def G7:Nat→List MV→Option MV:=bn 26 (Mg tB) G6
theorem FN:ap Tryz.prog cx G7:=my FM [] 4 [] [] [] Tryz.func26 (by kernel_rfl) (zB (by kernel_rfl))
noncomputable def gm (s1 s2:MV):Option MV:=
 gL s1 fun qK=>
 gL s2 fun vA=>
 cB qK fun len=>
 cB vA fun jU=>
 bp (!decide ((len:Int)=(jU:Int))) (
 some (.b false)) (
 cB qK fun nY=>
 bd (Loop (fun iS=>
 gC iS fun m fV=>
 gI .i64 m fun x=>
 gN fV<|
 bp (decide (x<(nY:Int))) (
 idx qK x fun y=>
 gA y fun cs=>
 je .i64 .i64 cs fun Path Value Version bj=>
 idx vA x fun y1=>
 gA y1 fun gu=>
 je .i64 .i64 gu fun iT fm cm po=>
 bp (!((decide (Path=iT))&&((decide (Value=fm))&&((decide (Version=cm))&&(decide (bj=po)))))) (
 some (.inr (1,[.b false]))) (
 some (.inl [.i .i64 (IntKind.wrap .i64 (x+1))]))) (
 some (.inr (2,[])))) [.i .i64 0]) fun p=>
 bp (Nat.beq p.1 2) (
 gN p.2<|
 some (.b true)) (
 dy (Nat.beq p.1 1)<|
 gC p.2 fun m9 tj=>
 gB m9 fun x1=>
 gN tj<|
 some (.b x1)))
noncomputable def nG:Nat→List MV→Option MV:=bn 139 (fh gm) G7
theorem rn:ap Tryz.prog cx nG:=FE FN [] [] 26 [] [] [] [(6,[0,1,2,3,4,5,6,7,8])] [] [] [(4,⟨[0,1,12],[],[(13,.sc (.k (.i .i64)))],[(1,[(4,.sc (.k .b))]),(2,[])],[]⟩)] [] Tryz.func139 (by kernel_rfl) (bu (fun _ _=>by kernel_rfl))
noncomputable def uL (a b:MV):Option MV:=
 gA a fun cs=>
 gC cs fun m iS=>
 gL m fun L=>
 gN iS<|
 gA b fun gu=>
 gC gu fun m1 fV=>
 gL m1 fun L1=>
 gN fV<|
 bd (gm (.list L) (.list L1)) fun rA=>
 gB rA fun x=>
 some (.b x)
noncomputable def Eo:Nat→List MV→Option MV:=bn 76 (fh uL) nG
theorem Ep:ap Tryz.prog cx Eo:=my rn [] 10 [] [] [] Tryz.func76 (by kernel_rfl) (bu (fun _ _=>by kernel_rfl))
noncomputable def eK (s1 s2:MV):Option MV:=
 gL s1 fun qK=>
 gL s2 fun vA=>
 cB qK fun len=>
 cB vA fun jU=>
 bp (!decide ((len:Int)=(jU:Int))) (
 some (.b false)) (
 cB qK fun nY=>
 bd (Loop (fun iS=>
 gC iS fun m fV=>
 gI .i64 m fun x=>
 gN fV<|
 bp (decide (x<(nY:Int))) (
 idx qK x fun y=>
 gA y fun cs=>
 B3 .i64 .i64 .i64 cs fun Id Span gz=>
 idx vA x fun y1=>
 gA y1 fun gu=>
 B3 .i64 .i64 .i64 gu fun Zv zE DW=>
 bp (!((decide (Id=Zv))&&((decide (Span=zE))&&(decide (gz=DW))))) (
 some (.inr (1,[.b false]))) (
 some (.inl [.i .i64 (IntKind.wrap .i64 (x+1))]))) (
 some (.inr (2,[])))) [.i .i64 0]) fun p=>
 bp (Nat.beq p.1 2) (
 gN p.2<|
 some (.b true)) (
 dy (Nat.beq p.1 1)<|
 gC p.2 fun m7 sC=>
 gB m7 fun x1=>
 gN sC<|
 some (.b x1)))
noncomputable def lS:Nat→List MV→Option MV:=bn 140 (fh eK) Eo
theorem pw:ap Tryz.prog cx lS:=FE Ep [] [] 26 [] [] [] [(6,[0,1,2,3,4,5,6,7,8])] [] [] [(4,⟨[0,1,12],[],[(13,.sc (.k (.i .i64)))],[(1,[(4,.sc (.k .b))]),(2,[])],[]⟩)] [] Tryz.func140 (by kernel_rfl) (bu (fun _ _=>by kernel_rfl))
noncomputable def uM (a b:MV):Option MV:=
 gA a fun cs=>
 Lb .i64 cs fun fE L=>
 gA b fun gu=>
 Lb .i64 gu fun ago L1=>
 bd (
 bp (decide (fE=ago)) (
 bd (eK (.list L) (.list L1)) fun rA=>
 gB rA fun x=>
 some [.b x]) (
 some [.b false])) fun vs=>
 gC vs fun m4 nk=>
 gB m4 fun x1=>
 gN nk<|
 some (.b x1)
noncomputable def Er:Nat→List MV→Option MV:=bn 77 (fh uM) lS
theorem Es:ap Tryz.prog cx Er:=my pw [] 17 [(1,⟨[2,3],[],[],[(0,[(4,.sc (.k .b))])],[]⟩)] [] [] Tryz.func77 (by kernel_rfl) (bu (fun _ _=>by kernel_rfl))
noncomputable def fL (s1 s2:MV):Option MV:=
 gL s1 fun qK=>
 gL s2 fun vA=>
 cB qK fun len=>
 cB vA fun jU=>
 bp (!decide ((len:Int)=(jU:Int))) (
 some (.b false)) (
 cB qK fun nY=>
 bd (Loop (fun iS=>
 gC iS fun m fV=>
 gI .i64 m fun x=>
 gN fV<|
 bp (decide (x<(nY:Int))) (
 idx qK x fun y=>
 gA y fun cs=>
 FD .i64 cs fun Path Client Kids=>
 idx vA x fun y1=>
 gA y1 fun gu=>
 FD .i64 gu fun iT fI Tg=>
 bp (!((decide (Path=iT))&&((decide (Client=fI))&&(decide (Kids=Tg))))) (
 some (.inr (1,[.b false]))) (
 some (.inl [.i .i64 (IntKind.wrap .i64 (x+1))]))) (
 some (.inr (2,[])))) [.i .i64 0]) fun p=>
 bp (Nat.beq p.1 2) (
 gN p.2<|
 some (.b true)) (
 dy (Nat.beq p.1 1)<|
 gC p.2 fun m7 sC=>
 gB m7 fun x1=>
 gN sC<|
 some (.b x1)))
noncomputable def nr:Nat→List MV→Option MV:=bn 141 (fh fL) Er
theorem qW:ap Tryz.prog cx nr:=FE Es [] [] 26 [] [] [] [(6,[0,1,2,3,4,5,6,7,8])] [] [] [(4,⟨[0,1,12],[],[(13,.sc (.k (.i .i64)))],[(1,[(4,.sc (.k .b))]),(2,[])],[]⟩)] [] Tryz.func141 (by kernel_rfl) (bu (fun _ _=>by kernel_rfl))
noncomputable def uN (a b:MV):Option MV:=
 gA a fun cs=>
 gC cs fun m iS=>
 gL m fun L=>
 gN iS<|
 gA b fun gu=>
 gC gu fun m1 fV=>
 gL m1 fun L1=>
 gN fV<|
 bd (fL (.list L) (.list L1)) fun rA=>
 gB rA fun x=>
 some (.b x)
noncomputable def Et:Nat→List MV→Option MV:=bn 78 (fh uN) nr
theorem Eu:ap Tryz.prog cx Et:=my qW [] 10 [] [] [] Tryz.func78 (by kernel_rfl) (bu (fun _ _=>by kernel_rfl))
noncomputable def uO (a b:MV):Option MV:=
 gA a fun cs=>
 fH .i64 .i64 .i64 .i64 cs fun Client Seq E Value Version Names=>
 gA b fun gu=>
 fH .i64 .i64 .i64 .i64 gu fun fI wo E1 fm cm yH=>
 bd (
 bp (decide (Client=fI)) (
 bp (decide (Seq=wo)) (
 bp (decide (E=E1)) (
 bp (decide (Value=fm)) (
 bp (decide (Version=cm)) (
 bd (fW (.list Names) (.list yH)) fun rA=>
 gB rA fun x=>
 some [.b x]) (
 some [.b false])) (
 some [.b false])) (
 some [.b false])) (
 some [.b false])) (
 some [.b false])) fun vs=>
 gC vs fun VN zI=>
 gB VN fun x1=>
 gN zI<|
 some (.b x1)
noncomputable def yM:Nat→List MV→Option MV:=bn 80 (fh uO) Et
theorem Ew:ap Tryz.prog cx yM:=my Eu [] 45 [(1,⟨[2,3],[],[],[(0,[(4,.sc (.k .b))])],[]⟩)] [] [] Tryz.func80 (by kernel_rfl) (bu (fun _ _=>by kernel_rfl))
noncomputable def b2:Nat→List MV→Option MV:=yM
theorem eL (x0 x1:MV):b2 80 [x0,x1]=uO x0 x1:=by kernel_rfl
noncomputable def bG (s1 s2 eq:MV):Option MV:=
 gL s1 fun qK=>
 gL s2 fun vA=>
 gR eq fun eq1=>
 cB qK fun len=>
 cB vA fun jU=>
 bp (!decide ((len:Int)=(jU:Int))) (
 some (.b false)) (
 cB qK fun nY=>
 bd (Loop (fun iS=>
 gC iS fun m fV=>
 gI .i64 m fun x=>
 gN fV<|
 bp (decide (x<(nY:Int))) (
 idx qK x fun y=>
 gA y fun cs=>
 fH .i64 .i64 .i64 .i64 cs fun Client Seq E Value Version Names=>
 idx vA x fun y1=>
 gA y1 fun gu=>
 fH .i64 .i64 .i64 .i64 gu fun fI wo E1 fm cm yH=>
 K3 eq1 fun fn cap=>
 dy (!gv fn)<|
 bd (b2 fn ([.agg (j0 Client Seq E Value Version Names),.agg (j0 fI wo E1 fm cm yH)]++cap)) fun rA=>
 gB rA fun x1=>
 bp (!x1) (
 some (.inr (1,[.b false]))) (
 some (.inl [.i .i64 (IntKind.wrap .i64 (x+1))]))) (
 some (.inr (2,[])))) [.i .i64 0]) fun p=>
 bp (Nat.beq p.1 2) (
 gN p.2<|
 some (.b true)) (
 dy (Nat.beq p.1 1)<|
 gC p.2 fun VO Td=>
 gB VO fun x2=>
 gN Td<|
 some (.b x2)))
noncomputable def dq:Nat→List MV→Option MV:=bn 79 (Fw bG) yM
theorem fP:ap Tryz.prog cx dq:=my Ew [] 32 [] [] [(4,⟨[1,2,15,16],[],[(17,.sc (.k (.i .i64)))],[(1,[(6,.sc (.k .b))]),(2,[])],[]⟩)] Tryz.func79 (by kernel_rfl) (rQ (fun _ _ _=>by kernel_rfl))
noncomputable def uP (a b:MV):Option MV:=
 gA a fun cs=>
 nX .i64 cs fun kF gY oR kG Seen=>
 gA b fun gu=>
 nX .i64 gu fun oq oY wL uQ Ex=>
 bd (
 bd (uL (.agg [.list kF]) (.agg [.list oq])) fun rA=>
 gB rA fun x=>
 bp x (
 bd (uM (.agg [.i .i64 gY,.list oR]) (.agg [.i .i64 oY,.list wL])) fun aV=>
 gB aV fun x1=>
 bp x1 (
 bd (uN (.agg [.list kG]) (.agg [.list uQ])) fun cP=>
 gB cP fun x2=>
 bp x2 (
 bd (bG (.list Seen) (.list Ex) (.func 80 [])) fun mP=>
 gB mP fun x3=>
 some [.b x3]) (
 some [.b false])) (
 some [.b false])) (
 some [.b false])) fun vs=>
 gC vs fun Pp tj=>
 gB Pp fun x4=>
 gN tj<|
 some (.b x4)
noncomputable def Ey:Nat→List MV→Option MV:=bn 34 (fh uP) dq
theorem Ez:ap Tryz.prog cx Ey:=my fP [] 31 [(1,⟨[2,3],[],[],[(0,[(4,.sc (.k .b))])],[]⟩)] [] [] Tryz.func34 (by kernel_rfl) (bu (fun _ _=>by kernel_rfl))
noncomputable def tC:Option MV:=
 bd (tB) fun rA=>
 gA rA fun cs=>
 nX .i64 cs fun kF gY oR kG Seen=>
 bd (mM (.agg (lC kF gY oR kG Seen)) (.agg (eC 1 1 1 ([47,97]:List UInt8) ([120]:List UInt8) 0 0 0))) fun aV=>
 gT aV fun vs=>
 gC vs fun m5 pn=>
 gA m5 fun gu=>
 nX .i64 gu fun oq oY wL uQ Ex=>
 gC pn fun Pq qG=>
 gA Pq fun tL=>
 fH .i64 .i64 .i64 .i64 tL fun Client Seq E Value Version Names=>
 gC qG fun m18 Kj=>
 gL m18 fun x=>
 gN Kj<|
 bd (mM (.agg (lC oq oY wL uQ Ex)) (.agg (eC 1 1 1 ([47,97]:List UInt8) ([120]:List UInt8) 0 0 0))) fun cP=>
 gT cP fun kO=>
 gC kO fun m19 S8=>
 gA m19 fun qm=>
 nX .i64 qm fun N0 Kq Th N1 XM=>
 gC S8 fun V4 DU=>
 gA V4 fun V6=>
 fH .i64 .i64 .i64 .i64 V6 fun fI wo E1 fm cm yH=>
 gC DU fun m32 adn=>
 gL m32 fun x1=>
 gN adn<|
 bd (qH (.agg (lC N0 Kq Th N1 XM)) (.i .i64 1)) fun mP=>
 gT mP fun rf=>
 gC rf fun m33 Ti=>
 gA m33 fun cs5=>
 fH .i64 .i64 .i64 .i64 cs5 fun V8 adm E2 Is wG agq=>
 gC Ti fun m40 Kn=>
 gB m40 fun x2=>
 gN Kn<|
 bd (
 bp (decide (E=0)) (
 bp (decide (E1=0)) (
 cB oq fun len=>
 bp (decide ((len:Int)=2)) (
 bd (uP (.agg (lC oq oY wL uQ Ex)) (.agg (lC N0 Kq Th N1 XM))) fun Fy=>
 gB Fy fun x3=>
 bp x3 (
 bp x2 (
 some [.b (decide (adm=1))]) (
 some [.b false])) (
 some [.b false])) (
 some [.b false])) (
 some [.b false])) (
 some [.b false])) fun vs3=>
 gC vs3 fun m41 DV=>
 gB m41 fun x4=>
 gN DV<|
 some (.b x4)
noncomputable def G8:Nat→List MV→Option MV:=bn 17 (Mg tC) Ey
theorem FO:ap Tryz.prog cx G8:=FE Ez [] [] 58 [] [] [] [(2,[1,0,2,3,4,5,6,7,8,9,10,11])] [(5,⟨[2,3,5,6,8,9],[],[],[(0,[(0,.sc (.k .b))])],[]⟩)] [] [] [] Tryz.func17 (by kernel_rfl) (zB (by kernel_rfl))
noncomputable def jz (x c:MV):Option MV:=
 gA x fun cs=>
 je .i64 .i64 cs fun Path Value Version bj=>
 gP c fun gu=>
 gC gu fun m4 nk=>
 gS m4 fun x1=>
 gN nk<|
 some (.b (decide (Path=x1)))
noncomputable def mC:Nat→List MV→Option MV:=bn 201 (fh jz) G8
theorem uR:ap Tryz.prog cx mC:=my FO [[.s]] 8 [] [] [] Tryz.func201 (by kernel_rfl) (bu (fun _ _=>by kernel_rfl))
noncomputable def fM:Nat→List MV→Option MV:=mC
theorem ja (x0 x1:MV):fM 201 [x0,x1]=jz x0 x1:=by kernel_rfl
noncomputable def ef (sA f:MV):Option MV:=
 gL sA fun pH=>
 gR f fun f1=>
 cB pH fun len=>
 bd (Loop (fun iS=>
 gC iS fun m fV=>
 gI .i64 m fun x=>
 gN fV<|
 bp (decide (x<(len:Int))) (
 idx pH x fun y=>
 gA y fun cs=>
 je .i64 .i64 cs fun Path Value Version bj=>
 K3 f1 fun fn cap=>
 dy (!gv fn)<|
 bd (fM fn ([.agg (nD Path Value Version bj)]++cap)) fun rA=>
 gB rA fun x1=>
 bp x1 (
 some (.inr (1,[.i .i64 x]))) (
 some (.inl [.i .i64 (IntKind.wrap .i64 (x+1))]))) (
 some (.inr (2,[])))) [.i .i64 0]) fun p=>
 bp (Nat.beq p.1 2) (
 gN p.2<|
 some (.i .i64 (-1))) (
 dy (Nat.beq p.1 1)<|
 gC p.2 fun m5 qM=>
 gI .i64 m5 fun x2=>
 gN qM<|
 some (.i .i64 x2))
noncomputable def lp:Nat→List MV→Option MV:=bn 200 (fh ef) mC
theorem oZ:ap Tryz.prog cx lp:=my uR [] 19 [] [] [(2,⟨[0,1,7],[],[(8,.sc (.k (.i .i64)))],[(1,[(4,.sc (.k (.i .i64)))]),(2,[])],[]⟩)] Tryz.func200 (by kernel_rfl) (bu (fun _ _=>by kernel_rfl))
noncomputable def lj (sA n:MV):Option MV:=
 gA sA fun cs=>
 gC cs fun m iS=>
 gL m fun L=>
 gN iS<|
 gA n fun gu=>
 je .i64 .i64 gu fun Path Value Version bj=>
 bd (mL (.s Path)) fun rA=>
 gT rA fun vs=>
 gC vs fun m5 pn=>
 gS m5 fun x=>
 gC pn fun m6 qM=>
 gI .i64 m6 fun x1=>
 gN qM<|
 bp (!decide (x1=0)) (
 some (.b (decide (bj=0)))) (
 bd (ef (.list L) (.func 201 [.rp [.s x]])) fun aV=>
 gI .i64 aV fun x2=>
 bd (
 bp (decide ((0:Int)≤x2)) (
 idx L x2 fun y=>
 gA y fun tL=>
 je .i64 .i64 tL fun iT fm cm po=>
 some [.b (decide (po=0))]) (
 some [.b false])) fun kO=>
 gC kO fun Pq qG=>
 gB Pq fun x3=>
 gN qG<|
 some (.b x3))
noncomputable def tD:Nat→List MV→Option MV:=bn 145 (fh lj) lp
theorem wM:ap Tryz.prog cx tD:=my oZ [] 34 [(5,⟨[2,7],[],[],[(0,[(4,.sc (.k .b))])],[]⟩)] [] [] Tryz.func145 (by kernel_rfl) (bu (fun _ _=>by kernel_rfl))
noncomputable def r8 (a:MV):Option MV:=
 gA a fun cs=>
 gC cs fun m iS=>
 gL m fun L=>
 gN iS<|
 bd (
 cB L fun len=>
 bp (decide ((len:Int)<1)) (
 some [.b true]) (
 cB L fun jU=>
 bp (decide ((200:Int)<(jU:Int))) (
 some [.b true]) (
 idx L 0 fun y=>
 gA y fun gu=>
 je .i64 .i64 gu fun Path Value Version bj=>
 some [.b (!decide (Path=([47]:List UInt8)))]))) fun vs=>
 gC vs fun m5 pn=>
 gB m5 fun x=>
 gN pn<|
 bp x (
 some (.b false)) (
 cB L fun nY=>
 bd (Loop (fun qM=>
 gC qM fun m6 uz=>
 gI .i64 m6 fun x1=>
 gN uz<|
 bp (decide (x1<(nY:Int))) (
 idx L x1 fun y1=>
 gA y1 fun tL=>
 je .i64 .i64 tL fun iT fm cm po=>
 bd (
 bd (iv (.s iT)) fun rA=>
 gB rA fun x2=>
 bp (!x2) (
 some [.b true]) (
 bp (decide ((1000:Int)<(fm.length:Int))) (
 some [.b true]) (
 bp (decide (cm<0)) (
 some [.b true]) (
 bp (decide ((1000000000:Int)<cm)) (
 some [.b true]) (
 bp (decide (po<0)) (
 some [.b true]) (
 bd (lj (.agg [.list L]) (.agg (nD iT fm cm po))) fun aV=>
 gB aV fun x3=>
 some [.b (!x3)])))))) fun kO=>
 gC kO fun Pq zI=>
 gB Pq fun x4=>
 gN zI<|
 bp x4 (
 some (.inr (1,[.b false]))) (
 bd (
 bp (decide ((0:Int)<x1)) (
 idx L (IntKind.wrap .i64 (x1-1)) fun y2=>
 gA y2 fun qm=>
 je .i64 .i64 qm fun XL Is wG Zy=>
 bd (qL (.s XL) (.s iT)) fun cP=>
 gB cP fun x5=>
 some [.b (!x5)]) (
 some [.b false])) fun rf=>
 gC rf fun m16 S9=>
 gB m16 fun x6=>
 gN S9<|
 bp x6 (
 some (.inr (1,[.b false]))) (
 some (.inl [.i .i64 (IntKind.wrap .i64 (x1+1))])))) (
 some (.inr (2,[])))) [.i .i64 0]) fun p=>
 bp (Nat.beq p.1 2) (
 gN p.2<|
 some (.b true)) (
 dy (Nat.beq p.1 1)<|
 gC p.2 fun Zj Kj=>
 gB Zj fun x7=>
 gN Kj<|
 some (.b x7)))
noncomputable def BK:Nat→List MV→Option MV:=bn 83 (te r8) tD
theorem Cd:ap Tryz.prog cx BK:=FE wM [] [] 78 [] [] [] [(8,[0,1,2,3,4,5,6,7,8,9,10,11,12,13,14])] [(8,⟨[1,3,4,24,25,26],[],[],[(0,[(76,.sc (.k .b))])],[]⟩),(6,⟨[1,3,4,24,25,26],[],[],[(0,[(61,.sc (.k .b))])],[]⟩),(1,⟨[1],[],[],[(0,[(22,.sc (.k .b))])],[]⟩)] [] [(4,⟨[1,24,25],[],[(26,.sc (.k (.i .i64)))],[(1,[(2,.sc (.k .b))]),(2,[])],[]⟩)] [] Tryz.func83 (by kernel_rfl) (gd (fun _=>by kernel_rfl))
noncomputable def r9 (a:MV):Option MV:=
 gA a fun cs=>
 Lb .i64 cs fun fE L=>
 bd (
 bp (decide (fE<0)) (
 some [.b true]) (
 bp (decide ((1000000000:Int)<fE)) (
 some [.b true]) (
 cB L fun len=>
 some [.b (decide ((50:Int)<(len:Int)))]))) fun vs=>
 gC vs fun m2 ni=>
 gB m2 fun x=>
 gN ni<|
 bp x (
 some (.b false)) (
 cB L fun jU=>
 bd (Loop (fun pk=>
 gC pk fun m3 nk=>
 gI .i64 m3 fun x1=>
 gN nk<|
 bp (decide (x1<(jU:Int))) (
 idx L x1 fun y=>
 gA y fun gu=>
 B3 .i64 .i64 .i64 gu fun Id Span gz=>
 bd (
 bp (decide (x1=0)) (
 some [.b true]) (
 idx L (IntKind.wrap .i64 (x1-1)) fun y1=>
 gA y1 fun tL=>
 B3 .i64 .i64 .i64 tL fun Zv zE DW=>
 some [.b (decide (Zv<Id))])) fun kO=>
 gC kO fun Pp qG=>
 gB Pp fun x2=>
 gN qG<|
 bd (
 bp (!x2) (
 some [.b true]) (
 bp (decide (Id<1)) (
 some [.b true]) (
 bp (decide (Span<1)) (
 some [.b true]) (
 bp (decide ((1000:Int)<Span)) (
 some [.b true]) (
 bp (decide (gz≤fE)) (
 some [.b true]) (
 some [.b (decide ((IntKind.wrap .i64 (fE+Span))<gz))])))))) fun rf=>
 gC rf fun Pq zI=>
 gB Pq fun x3=>
 gN zI<|
 bp x3 (
 some (.inr (1,[.b false]))) (
 some (.inl [.i .i64 (IntKind.wrap .i64 (x1+1))]))) (
 some (.inr (2,[])))) [.i .i64 0]) fun p=>
 bp (Nat.beq p.1 2) (
 gN p.2<|
 some (.b true)) (
 dy (Nat.beq p.1 1)<|
 gC p.2 fun VN DT=>
 gB VN fun x4=>
 gN DT<|
 some (.b x4)))
noncomputable def BL:Nat→List MV→Option MV:=bn 84 (te r9) BK
theorem Ce:ap Tryz.prog cx BL:=FE Cd [] [] 77 [] [] [] [(6,[0,1,2,3,4,5,6,7,8,9,10,11,12,13,14])] [(7,⟨[1,4,5,21,22,23],[],[],[(0,[(75,.sc (.k .b))])],[]⟩),(6,⟨[1,3,4,21,22,23],[],[],[(0,[(5,.sc (.k .b))])],[]⟩),(1,⟨[1],[],[],[(0,[(19,.sc (.k .b))])],[]⟩)] [] [(4,⟨[1,21,22],[],[(23,.sc (.k (.i .i64)))],[(1,[(2,.sc (.k .b))]),(2,[])],[]⟩)] [] Tryz.func84 (by kernel_rfl) (gd (fun _=>by kernel_rfl))
noncomputable def sa (t:MV):Option MV:=
 gA t fun cs=>
 gC cs fun m iS=>
 gL m fun L=>
 gN iS<|
 cB L fun len=>
 bd (Loop (fun fV=>
 gC fV fun m1 ni=>
 gL m1 fun seen=>
 gC ni fun m2 pk=>
 gI .i64 m2 fun x=>
 gN pk<|
 bp (decide (x<(len:Int))) (
 idx L x fun y=>
 gA y fun gu=>
 FD .i64 gu fun Path Client Kids=>
 bd (
 bd (iv (.s Path)) fun rA=>
 gB rA fun x1=>
 bp (!x1) (
 some [.b true]) (
 bp (decide (Client<0)) (
 some [.b true]) (
 some [.b (vN seen ([.s Path,.i .i64 Client,.b Kids]:List MV))]))) fun vs=>
 gC vs fun m6 uz=>
 gB m6 fun x2=>
 gN uz<|
 bp x2 (
 some (.inr (1,[.b false]))) (
 some (.inl [.list (tQ (tP seen ([.s Path,.i .i64 Client,.b Kids]:List MV) (.b false)) (cJ seen ([.s Path,.i .i64 Client,.b Kids]:List MV)) (.b true)),.i .i64 (IntKind.wrap .i64 (x+1))]))) (
 some (.inr (2,[])))) [.list ([]:List MV),.i .i64 0]) fun p=>
 bp (Nat.beq p.1 2) (
 gN p.2<|
 cB L fun jU=>
 some (.b (decide ((jU:Int)≤200)))) (
 dy (Nat.beq p.1 1)<|
 gC p.2 fun m7 sC=>
 gB m7 fun x3=>
 gN sC<|
 some (.b x3))
noncomputable def BM:Nat→List MV→Option MV:=bn 85 (te sa) BL
theorem Cf:ap Tryz.prog cx BM:=my Ce [] 35 [(5,⟨[1,3,5,8,9,10],[],[],[(0,[(27,.sc (.k .b))])],[]⟩)] [] [(3,⟨[1,8,9],[],[(3,.mp ⟨true,[.s,.i .i64,.b],true⟩),(10,.sc (.k (.i .i64)))],[(1,[(2,.sc (.k .b))]),(2,[])],[]⟩)] Tryz.func85 (by kernel_rfl) (gd (fun _=>by kernel_rfl))
noncomputable def sb (rA:MV):Option MV:=
 gA rA fun cs=>
 nX .i64 cs fun kF gY oR kG Seen=>
 bd (
 bd (r8 (.agg [.list kF])) fun aV=>
 gB aV fun x=>
 bp (!x) (
 some [.b true]) (
 bd (r9 (.agg [.i .i64 gY,.list oR])) fun cP=>
 gB cP fun x1=>
 bp (!x1) (
 some [.b true]) (
 bd (sa (.agg [.list kG])) fun mP=>
 gB mP fun x2=>
 bp (!x2) (
 some [.b true]) (
 cB Seen fun len=>
 some [.b (decide ((50:Int)<(len:Int)))])))) fun vs=>
 gC vs fun m5 pn=>
 gB m5 fun x3=>
 gN pn<|
 bp x3 (
 some (.b false)) (
 cB Seen fun jU=>
 bd (Loop (fun qM=>
 Kg .i64 .i64 qM fun last x4=>
 bp (decide (x4<(jU:Int))) (
 idx Seen x4 fun y=>
 gA y fun gu=>
 fH .i64 .i64 .i64 .i64 gu fun Client Seq E Value Version Names=>
 bd (
 bp (decide (Client≤last)) (
 some [.b true]) (
 bp (decide ((1000:Int)<Client)) (
 some [.b true]) (
 some [.b (decide (Seq<1))]))) fun kO=>
 gC kO fun m14 Te=>
 gB m14 fun x5=>
 gN Te<|
 bp x5 (
 some (.inr (1,[.b false]))) (
 some (.inl [.i .i64 Client,.i .i64 (IntKind.wrap .i64 (x4+1))]))) (
 some (.inr (2,[])))) [.i .i64 (-1),.i .i64 0]) fun p=>
 bp (Nat.beq p.1 2) (
 gN p.2<|
 some (.b true)) (
 dy (Nat.beq p.1 1)<|
 gC p.2 fun m15 ado=>
 gB m15 fun x6=>
 gN ado<|
 some (.b x6)))
noncomputable def BN:Nat→List MV→Option MV:=bn 38 (te sb) BM
theorem Cg:ap Tryz.prog cx BN:=my Cf [] 52 [(7,⟨[3,5,29,30,31],[],[],[(0,[(48,.sc (.k .b))])],[]⟩),(1,⟨[1],[],[],[(0,[(27,.sc (.k .b))])],[]⟩)] [] [(5,⟨[29,30],[],[(3,.sc (.k (.i .i64))),(31,.sc (.k (.i .i64)))],[(1,[(2,.sc (.k .b))]),(2,[])],[]⟩)] Tryz.func38 (by kernel_rfl) (gd (fun _=>by kernel_rfl))
noncomputable def pz (a:MV):Option MV:=
 gL a fun a1=>
 bd (xk (.list a1)) fun rA=>
 gB rA fun x=>
 bp (!x) (
 bd (tC) fun aV=>
 gB aV fun x1=>
 some (.b x1)) (
 bd (tB) fun cP=>
 gA cP fun cs=>
 nX .i64 cs fun kF gY oR kG Seen=>
 bd (Loop (fun pn=>
 gC pn fun m5 qM=>
 gL m5 fun x2=>
 gC qM fun m6 uz=>
 gI .i64 m6 fun x3=>
 gC uz fun m7 sC=>
 gL m7 fun x4=>
 gC sC fun m8 Iq=>
 gL m8 fun x5=>
 gC Iq fun m9 tj=>
 gL m9 fun x6=>
 gC tj fun Pp qG=>
 gI .i64 Pp fun x7=>
 gN qG<|
 cB a1 fun len=>
 bp (decide (x7<(len:Int))) (
 idx a1 x7 fun y=>
 gA y fun gu=>
 kY .i64 .i64 .i64 .i64 .i64 .i64 gu fun Client Seq Kind Path Value Version Session Span=>
 bd (mM (.agg (lC x2 x3 x4 x5 x6)) (.agg (eC Client Seq Kind Path Value Version Session Span))) fun mP=>
 gT mP fun vs=>
 gC vs fun m19 iV=>
 gA m19 fun tL=>
 nX .i64 tL fun oq oY wL uQ Ex=>
 gC iV fun V4 Km=>
 gA V4 fun qm=>
 fH .i64 .i64 .i64 .i64 qm fun fI wo E fm cm Names=>
 gC Km fun m32 Ti=>
 gL m32 fun x8=>
 gN Ti<|
 bd (Loop (fun adp=>
 gC adp fun m33 adq=>
 gI .i64 m33 fun x9=>
 gN adq<|
 cB oq fun jU=>
 bp (decide (x9<(jU:Int))) (
 idx oq x9 fun y1=>
 gA y1 fun V6=>
 je .i64 .i64 V6 fun iT Is wG bj=>
 bd (
 bp (decide (bj<0)) (
 some [.b true]) (
 bp (decide ((0:Int)<bj)) (
 bd (tq (.agg [.i .i64 oY,.list wL]) (.i .i64 bj)) fun Fy=>
 gB Fy fun B4=>
 some [.b (!B4)]) (
 some [.b false]))) fun kO=>
 gC kO fun m38 Kn=>
 gB m38 fun DM=>
 gN Kn<|
 bp DM (
 some (.inr (1,[.b false]))) (
 some (.inl [.i .i64 (IntKind.wrap .i64 (x9+1))]))) (
 some (.inr (4,[])))) [.i .i64 0]) fun p1=>
 bp (Nat.beq p1.1 4) (
 gN p1.2<|
 bd (sb (.agg (lC oq oY wL uQ Ex))) fun Mj=>
 gB Mj fun DN=>
 bp (!DN) (
 some (.inr (1,[.b false]))) (
 some (.inl [.list oq,.i .i64 oY,.list wL,.list uQ,.list Ex,.i .i64 (IntKind.wrap .i64 (x7+1))]))) (
 dy (Nat.beq p1.1 1)<|
 gC p1.2 fun m39 DV=>
 gB m39 fun DO=>
 gN DV<|
 some (.inr (1,[.b DO])))) (
 some (.inr (2,[])))) [.list kF,.i .i64 gY,.list oR,.list kG,.list Seen,.i .i64 0]) fun p=>
 bp (Nat.beq p.1 2) (
 gN p.2<|
 bd (tC) fun VM=>
 gB VM fun DP=>
 some (.b DP)) (
 dy (Nat.beq p.1 1)<|
 gC p.2 fun m40 Ko=>
 gB m40 fun DQ=>
 gN Ko<|
 some (.b DQ)))
noncomputable def Ch:Nat→List MV→Option MV:=bn 8 (te pz) BN
theorem xN:ap Tryz.prog cx Ch:=FE Cg [] [] 66 [] [] [] [(7,[0,1,2,3,4,5,6,7,8,9,10,11,12,13,14])] [(13,⟨[0,3,4,8,9],[],[],[(0,[(61,.sc (.k .b))])],[]⟩)] [] [(10,⟨[0,3,4],[],[(8,.sc (.k (.i .i64)))],[(1,[(2,.sc (.k .b))]),(4,[])],[]⟩),(5,⟨[0],[],[(3,.box [.k .l,.k (.i .i64),.k .l,.k .l,.k .l]),(4,.sc (.k (.i .i64)))],[(1,[(2,.sc (.k .b))]),(2,[])],[]⟩)] [] Tryz.func8 (by kernel_rfl) (gd (fun _=>by kernel_rfl))
end Dn.S
