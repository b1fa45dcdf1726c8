import Derived.Test.YteakdlhhamgfbaaDoorDnYTab
import Derived.Test.YteakdlhhamgfbaaDoorDnC
import Derived.Test.YteakdlhhamgfbaaDoorDnYT
import Derived.KernelRfl
import Derived.Test.YteakdlhhamgfbaaDoorProg
/-
  The functions, on plain values, and their contracts. Conditions: none.
-/
open Go Dn Go.Proofs
set_option linter.unusedVariables false
set_option linter.unusedSimpArgs false
set_option maxRecDepth 100000
namespace Dn.S
theorem DY:fp Tryd.prog (mw xk):=Fw (by kernel_rfl)
theorem GP:Ae Tryd.prog (mw xk):=AW (by kernel_rfl)
theorem DZ:Tryd.prog.follows .mixedOrders=true:=by kernel_rfl
def zQ:List (Nat×jv)→Nat→jv
 |[],_=>default
 |(k,s)::r,t=>bif Nat.beq k t then s else zQ r t
def D5:List (Nat×List Nat)→Nat→List Nat
 |[],_=>[]
 |(k,s)::r,t=>bif Nat.beq k t then s else D5 r t
def D6:List (Nat×Nat)→Nat→Nat
 |[],_=>0
 |(k,s)::r,t=>bif Nat.beq k t then s else D6 r t
def kk (n:Nat):Nat:=n
def gv (n:Nat):Bool:=aB [101,104] n
def Ow (n:Nat):Bool:=aB [87,88,101,102,104,106,77,21] n
def GQ:List (Nat×Nat):=[(87,48),(88,48),(101,92),(102,92),(104,92),(106,9),(77,9),(21,9)]
def zR:List (Nat×FloatKind)→Nat→Option FloatKind
 |[],_=>none
 |(k,s)::r,t=>bif Nat.beq k t then some s else zR r t
def D7:List (Nat×FloatKind):=[]
theorem GR: ∀t k,zR D7 t=some k→Tryd.prog.underlying t=some (.float k):=by
 intro t k h
 cases h
def D8:List (Nat×(Nat×Bool)):=[]
def D9:List (Nat×(Nat×List LK))→Nat→Option (Nat×List LK)
 |[],_=>none
 |(k,s)::r,t=>bif Nat.beq k t then some s else D9 r t
def Ea:List (Nat×(Nat×List LK)):=[]
def dl (n:Nat):Bool:=aB [] n
def cx:Ctx:=⟨mw xk,kk,fun _ _=>none,gv,Ow,D6 GQ,D9 Ea,[],0,[],[],fun _=>[],zR D7,sI D8,fun _=>[],fun _=>default,fun _=>default,fun _=>default,dl,[]⟩
def FU (g:Nat→List MV→Option MV) (par:List (Nat×Nat)) (n:Nat) (bs fl:List Nat) (fz ord:List (Nat×List Nat)) (rD tX tj:List (Nat×jv)) (dyn:List Nat):Ctx:=⟨mw xk,kk,g,gv,Ow,D6 GQ,D9 Ea,par,n,bs,fl,D5 fz,zR D7,sI D8,D5 ord,zQ rD,zQ tX,zQ tj,dl,dyn⟩
theorem GS:r8 Tryd.prog cx:=yN (l:=D8) (by kernel_rfl) (fun _ _ h=>h)
def Nj (t:Nat):TI:=match mw xk t with|some I=>I|none=>⟨false,0,0,[],[],[],[],0,[]⟩
theorem QC:cx.tv 9=some (Nj 9):=by kernel_rfl
theorem zS:np Tryd.prog cx:=by
 intro n hn
 unfold cx dl aB at hn
 cases hn
def qS:Go.Shelf.Ren:=⟨fun|160=>80|232=>112|231=>111|227=>113|234=>115|233=>114|236=>117|235=>116|228=>134|271=>136|151=>83|197=>135|120=>150|152=>119|260=>149|137=>138|119=>139|224=>140|225=>141|217=>151|266=>156|n=>n,fun|9=>9|4=>4|3=>3|5=>5|117=>156|116=>155|0=>0|124=>159|21=>21|105=>174|46=>178|119=>182|139=>185|138=>184|n=>n,fun|3=>1|4=>2|n=>n⟩
theorem FV:Go.Proofs.Lays.n160 Tryd.prog qS:={
 mixed:=by kernel_rfl
 f119:=Tryd.func139.trans (congrArg some (by kernel_rfl))
 f120:=Tryd.func150.trans (congrArg some (by kernel_rfl))
 f137:=Tryd.func138.trans (congrArg some (by kernel_rfl))
 f151:=Tryd.func83.trans (congrArg some (by kernel_rfl))
 f152:=Tryd.func119.trans (congrArg some (by kernel_rfl))
 f160:=Tryd.func80.trans (congrArg some (by kernel_rfl))
 f197:=Tryd.func135.trans (congrArg some (by kernel_rfl))
 f217:=Tryd.func151.trans (congrArg some (by kernel_rfl))
 f224:=Tryd.func140.trans (congrArg some (by kernel_rfl))
 f225:=Tryd.func141.trans (congrArg some (by kernel_rfl))
 f227:=Tryd.func113.trans (congrArg some (by kernel_rfl))
 f228:=Tryd.func134.trans (congrArg some (by kernel_rfl))
 f231:=Tryd.func111.trans (congrArg some (by kernel_rfl))
 f232:=Tryd.func112.trans (congrArg some (by kernel_rfl))
 f233:=Tryd.func114.trans (congrArg some (by kernel_rfl))
 f234:=Tryd.func115.trans (congrArg some (by kernel_rfl))
 f235:=Tryd.func116.trans (congrArg some (by kernel_rfl))
 f236:=Tryd.func117.trans (congrArg some (by kernel_rfl))
 f260:=Tryd.func149.trans (congrArg some (by kernel_rfl))
 f266:=Tryd.func156.trans (congrArg some (by kernel_rfl))
 f271:=Tryd.func136.trans (congrArg some (by kernel_rfl))
 t0:=Tryd.underlying0
 a0:=Tryd.isAgg0
 z0:=Tryd.sizeOf0
 v0:=Tryd.zeroValue0
 t3:=Tryd.underlying3
 a3:=Tryd.isAgg3
 z3:=Tryd.sizeOf3
 v3:=Tryd.zeroValue3
 t4:=Tryd.underlying4
 a4:=Tryd.isAgg4
 z4:=Tryd.sizeOf4
 v4:=Tryd.zeroValue4
 t5:=Tryd.underlying5
 a5:=Tryd.isAgg5
 z5:=Tryd.sizeOf5
 v5:=Tryd.zeroValue5
 t9:=Tryd.underlying9
 a9:=Tryd.isAgg9
 z9:=Tryd.sizeOf9
 v9:=Tryd.zeroValue9
 t21:=Tryd.underlying21
 a21:=Tryd.isAgg21
 z21:=Tryd.sizeOf21
 v21:=Tryd.zeroValue21
 t46:=Tryd.underlying178
 a46:=Tryd.isAgg178
 z46:=Tryd.sizeOf178
 v46:=Tryd.zeroValue178
 t105:=Tryd.underlying174
 a105:=Tryd.isAgg174
 z105:=Tryd.sizeOf174
 v105:=Tryd.zeroValue174
 t116:=Tryd.underlying155
 a116:=Tryd.isAgg155
 z116:=Tryd.sizeOf155
 t117:=Tryd.underlying156
 a117:=Tryd.isAgg156
 z117:=Tryd.sizeOf156
 v117:=Tryd.zeroValue156
 t119:=Tryd.underlying182
 a119:=Tryd.isAgg182
 z119:=Tryd.sizeOf182
 t124:=Tryd.underlying159
 a124:=Tryd.isAgg159
 z124:=Tryd.sizeOf159
 v124:=Tryd.zeroValue159
 t138:=Tryd.underlying184
 a138:=Tryd.isAgg184
 z138:=Tryd.sizeOf184
 v138:=Tryd.zeroValue184
 t139:=Tryd.underlying185
 a139:=Tryd.isAgg185
 z139:=Tryd.sizeOf185
 v139:=Tryd.zeroValue185
 g3:=by kernel_rfl
 g4:=by kernel_rfl}
def qT:Go.Shelf.Ren:=⟨fun|151=>83|152=>119|137=>138|119=>139|224=>140|225=>141|217=>151|266=>156|n=>n,fun|9=>9|21=>21|4=>4|3=>3|5=>5|0=>0|46=>178|n=>n,fun|n=>n⟩
theorem FW:Go.Proofs.Lays.n151 Tryd.prog qT:={
 mixed:=by kernel_rfl
 f119:=Tryd.func139.trans (congrArg some (by kernel_rfl))
 f137:=Tryd.func138.trans (congrArg some (by kernel_rfl))
 f151:=Tryd.func83.trans (congrArg some (by kernel_rfl))
 f152:=Tryd.func119.trans (congrArg some (by kernel_rfl))
 f217:=Tryd.func151.trans (congrArg some (by kernel_rfl))
 f224:=Tryd.func140.trans (congrArg some (by kernel_rfl))
 f225:=Tryd.func141.trans (congrArg some (by kernel_rfl))
 f266:=Tryd.func156.trans (congrArg some (by kernel_rfl))
 t0:=Tryd.underlying0
 a0:=Tryd.isAgg0
 z0:=Tryd.sizeOf0
 v0:=Tryd.zeroValue0
 t3:=Tryd.underlying3
 a3:=Tryd.isAgg3
 z3:=Tryd.sizeOf3
 v3:=Tryd.zeroValue3
 t4:=Tryd.underlying4
 a4:=Tryd.isAgg4
 z4:=Tryd.sizeOf4
 v4:=Tryd.zeroValue4
 t5:=Tryd.underlying5
 a5:=Tryd.isAgg5
 z5:=Tryd.sizeOf5
 v5:=Tryd.zeroValue5
 t9:=Tryd.underlying9
 a9:=Tryd.isAgg9
 z9:=Tryd.sizeOf9
 v9:=Tryd.zeroValue9
 t21:=Tryd.underlying21
 a21:=Tryd.isAgg21
 z21:=Tryd.sizeOf21
 v21:=Tryd.zeroValue21
 t46:=Tryd.underlying178
 a46:=Tryd.isAgg178
 z46:=Tryd.sizeOf178
 v46:=Tryd.zeroValue178}
def qU:Go.Shelf.Ren:=⟨fun|146=>106|221=>131|268=>146|138=>147|143=>148|195=>153|197=>135|218=>154|219=>155|260=>149|217=>151|225=>141|224=>140|267=>157|266=>156|314=>158|n=>n,fun|9=>9|31=>23|3=>3|4=>4|0=>0|105=>174|21=>21|5=>5|46=>178|119=>182|139=>185|138=>184|146=>171|51=>170|n=>n,fun|1=>0|3=>1|4=>2|n=>n⟩
theorem FX:Go.Proofs.Lays.n146 Tryd.prog qU:={
 mixed:=by kernel_rfl
 f138:=Tryd.func147.trans (congrArg some (by kernel_rfl))
 f143:=Tryd.func148.trans (congrArg some (by kernel_rfl))
 f146:=Tryd.func106.trans (congrArg some (by kernel_rfl))
 f195:=Tryd.func153.trans (congrArg some (by kernel_rfl))
 f197:=Tryd.func135.trans (congrArg some (by kernel_rfl))
 f217:=Tryd.func151.trans (congrArg some (by kernel_rfl))
 f218:=Tryd.func154.trans (congrArg some (by kernel_rfl))
 f219:=Tryd.func155.trans (congrArg some (by kernel_rfl))
 f221:=Tryd.func131.trans (congrArg some (by kernel_rfl))
 f224:=Tryd.func140.trans (congrArg some (by kernel_rfl))
 f225:=Tryd.func141.trans (congrArg some (by kernel_rfl))
 f260:=Tryd.func149.trans (congrArg some (by kernel_rfl))
 f266:=Tryd.func156.trans (congrArg some (by kernel_rfl))
 f267:=Tryd.func157.trans (congrArg some (by kernel_rfl))
 f268:=Tryd.func146.trans (congrArg some (by kernel_rfl))
 f314:=Tryd.func158.trans (congrArg some (by kernel_rfl))
 t0:=Tryd.underlying0
 a0:=Tryd.isAgg0
 z0:=Tryd.sizeOf0
 v0:=Tryd.zeroValue0
 t3:=Tryd.underlying3
 a3:=Tryd.isAgg3
 z3:=Tryd.sizeOf3
 v3:=Tryd.zeroValue3
 t4:=Tryd.underlying4
 a4:=Tryd.isAgg4
 z4:=Tryd.sizeOf4
 v4:=Tryd.zeroValue4
 t5:=Tryd.underlying5
 a5:=Tryd.isAgg5
 z5:=Tryd.sizeOf5
 v5:=Tryd.zeroValue5
 t9:=Tryd.underlying9
 a9:=Tryd.isAgg9
 z9:=Tryd.sizeOf9
 v9:=Tryd.zeroValue9
 t21:=Tryd.underlying21
 a21:=Tryd.isAgg21
 z21:=Tryd.sizeOf21
 v21:=Tryd.zeroValue21
 t31:=Tryd.underlying23
 a31:=Tryd.isAgg23
 z31:=Tryd.sizeOf23
 v31:=Tryd.zeroValue23
 t46:=Tryd.underlying178
 a46:=Tryd.isAgg178
 z46:=Tryd.sizeOf178
 v46:=Tryd.zeroValue178
 t51:=Tryd.underlying170
 a51:=Tryd.isAgg170
 z51:=Tryd.sizeOf170
 v51:=Tryd.zeroValue170
 t105:=Tryd.underlying174
 a105:=Tryd.isAgg174
 z105:=Tryd.sizeOf174
 v105:=Tryd.zeroValue174
 t119:=Tryd.underlying182
 a119:=Tryd.isAgg182
 z119:=Tryd.sizeOf182
 t138:=Tryd.underlying184
 a138:=Tryd.isAgg184
 z138:=Tryd.sizeOf184
 v138:=Tryd.zeroValue184
 t139:=Tryd.underlying185
 a139:=Tryd.isAgg185
 z139:=Tryd.sizeOf185
 v139:=Tryd.zeroValue185
 t146:=Tryd.underlying171
 a146:=Tryd.isAgg171
 z146:=Tryd.sizeOf171
 v146:=Tryd.zeroValue171
 g1:=by kernel_rfl
 g3:=by kernel_rfl
 g4:=by kernel_rfl}
theorem Ir {g:Nat→List MV→Option MV} (h:aA Tryd.prog cx g):aA Tryd.prog cx (cB 80 sS g):=h.Ik (fun _=>rfl) (fun ms r hr=>FR (P:=Tryd.prog) (ρ:=qS) (c:=cx) FV (by kernel_rfl) (by kernel_rfl) hr)
theorem Is {g:Nat→List MV→Option MV} (h:aA Tryd.prog cx g):aA Tryd.prog cx (cB 83 jJ g):=h.Ik (fun _=>rfl) (fun ms r hr=>yY (P:=Tryd.prog) (ρ:=qT) (c:=cx) FW (by kernel_rfl) hr)
theorem FY {g:Nat→List MV→Option MV} (h:aA Tryd.prog cx g):aA Tryd.prog cx (cB 106 nr g):=h.Ik (fun _=>rfl) (fun ms r hr=>DW (P:=Tryd.prog) (ρ:=qU) (c:=cx) FX (by kernel_rfl) (by kernel_rfl) (by kernel_rfl) QC (by kernel_rfl) hr)
noncomputable def Ox:Nat→List MV→Option MV:=cB 80 sS (fun _ _=>none)
theorem Eb:aA Tryd.prog cx Ox:=Ir (aA.none _ _)
noncomputable def Oy:Nat→List MV→Option MV:=cB 83 jJ Ox
theorem Ec:aA Tryd.prog cx Oy:=Is Eb
noncomputable def KG:Nat→List MV→Option MV:=cB 106 nr Oy
theorem Bd:aA Tryd.prog cx KG:=FY Ec
theorem IY {g:Nat→List MV→Option MV} (s:aA Tryd.prog cx g) (bk:List (List Kd)) (par:List (Nat×Nat)) (tn:Nat) (bs fl:List Nat) (fz ord:List (Nat×List Nat)) (rD tX tj:List (Nat×jv)) (dyn:List Nat) {n:Nat} {fn:Func} {F:List MV→Option MV} (hf:Tryd.prog.funcs[n]? =some fn)
 (hh:uK (FU g par tn bs fl fz ord rD tX tj dyn) n fn bk=true) (hF: ∀{ms r},F ms=some r→uc (FU g par tn bs fl fz ord rD tX tj dyn) bk none fn ms=some r):aA Tryd.prog cx (cB n F g):=
 s.fn (c':=FU g par tn bs fl fz ord rD tX tj dyn) ⟨rfl,rfl,rfl,rfl,rfl,rfl,rfl,rfl,rfl⟩ rfl DY GP GR GS DZ zS hf hh (fun _=>rfl) (fresh:=none) rfl hF
theorem oJ {g:Nat→List MV→Option MV} (s:aA Tryd.prog cx g) (bk:List (List Kd)) (tn:Nat) (rD tX tj:List (Nat×jv)) {n:Nat} {fn:Func} {F:List MV→Option MV} (hf:Tryd.prog.funcs[n]? =some fn)
 (hh:uK (FU g [] tn [] [] [] [] rD tX tj []) n fn bk=true) (hF: ∀{ms r},F ms=some r→uc (FU g [] tn [] [] [] [] rD tX tj []) bk none fn ms=some r):aA Tryd.prog cx (cB n F g):=IY s bk [] tn [] [] [] [] rD tX tj [] hf hh hF
theorem Oz {g:Nat→List MV→Option MV} (s:aA Tryd.prog cx g) (ty:Nat) (bk:List (List Kd)) (par:List (Nat×Nat)) (tn:Nat) (bs fl:List Nat) (fz ord:List (Nat×List Nat)) (rD tX tj:List (Nat×jv)) (dyn:List Nat) {n:Nat} {fn:Func} {F:List MV→Option MV} (hf:Tryd.prog.funcs[n]? =some fn)
 (hh:uK (FU g par tn bs fl fz ord rD tX tj dyn) n fn bk=true) (tx:sQ (FU g par tn bs fl fz ord rD tX tj dyn) n fn (some ty)=true) (hF: ∀{ms r},F ms=some r→uc (FU g par tn bs fl fz ord rD tX tj dyn) bk (some ty) fn ms=some r):aA Tryd.prog cx (cB n F g):=
 s.fn (c':=FU g par tn bs fl fz ord rD tX tj dyn) ⟨rfl,rfl,rfl,rfl,rfl,rfl,rfl,rfl,rfl⟩ rfl DY GP GR GS DZ zS hf hh (fun _=>rfl) tx hF
noncomputable def c4 (sA aC:MV):Option MV:=
 gS sA fun dK=>
 gS aC fun eg=>
 bd (
 b3 (decide ((eg.length:Int)≤(dK.length:Int))) (
 cR (decide ((0:Int)≤0∧(0:Int)≤(eg.length:Int)∧(eg.length:Int)≤(dK.length:Int)))<|
 some [.b (decide ((List.drop (Int.toNat 0) (List.take (Int.toNat (eg.length:Int)) dK))=eg))]) (
 some [.b false])) fun vs=>
 gC vs fun m iZ=>
 gB m fun x=>
 gN iZ<|
 some (.b x)
noncomputable def gZ:Nat→List MV→Option MV:=cB 145 (iY c4) KG
theorem j9:aA Tryd.prog cx gZ:=oJ Bd [] 18 [(1,⟨[0,1],[],[],[(0,[(4,.sc (.k .b))])],[]⟩)] [] [] Tryd.func145 (by kernel_rfl) (ca (fun _ _=>by kernel_rfl))
noncomputable def c5 (sA aC:MV):Option MV:=
 gS sA fun dK=>
 gS aC fun eg=>
 bd (c4 (.s dK) (.s eg)) fun rA=>
 gB rA fun x=>
 b3 (!x) (
 some (.fS [.s dK,.b false])) (
 cR (decide ((0:Int)≤(eg.length:Int)∧(eg.length:Int)≤(dK.length:Int)∧(dK.length:Int)≤(dK.length:Int)))<|
 some (.fS [.s (List.drop (Int.toNat (eg.length:Int)) (List.take (Int.toNat (dK.length:Int)) dK)),.b true]))
noncomputable def hH:Nat→List MV→Option MV:=cB 130 (iY c5) gZ
theorem ka:aA Tryd.prog cx hH:=oJ j9 [] 15 [] [] [] Tryd.func130 (by kernel_rfl) (ca (fun _ _=>by kernel_rfl))
noncomputable def ez (sA aC:MV):Option MV:=
 gS sA fun dK=>
 gS aC fun eg=>
 bd (c5 (.s dK) (.s eg)) fun rA=>
 gT rA fun vs=>
 gC vs fun m iZ=>
 gS m fun x=>
 gC iZ fun m1 dw=>
 gB m1 fun x1=>
 gN dw<|
 some (.fS [.s x,.b x1])
noncomputable def kz:Nat→List MV→Option MV:=cB 105 (iY ez) hH
theorem mF:aA Tryd.prog cx kz:=oJ ka [] 11 [] [] [] Tryd.func105 (by kernel_rfl) (ca (fun _ _=>by kernel_rfl))
noncomputable def iv (c:MV):Option MV:=
 gI .i32 c fun c1=>
 bd (jJ [.s ([97,98,99,100,101,102,103,104,105,106,107,108,109,110,111,112,113,114,115,116,117,118,119,120,121,122,48,49,50,51,52,53,54,55,56,57,45,95]:List UInt8),.i .i32 c1]) fun rA=>
 gB rA fun x=>
 some (.b (!x))
noncomputable def kQ:Nat→List MV→Option MV:=cB 82 (oH iv) kz
theorem pG:aA Tryd.prog cx kQ:=oJ mF [] 6 [] [] [] Tryd.func82 (by kernel_rfl) (e8 (fun _=>by kernel_rfl))
noncomputable def dk:Nat→List MV→Option MV:=kQ
theorem ja (x0:MV):dk 82 [x0]=iv x0:=by kernel_rfl
noncomputable def fH (sA f gY:MV):Option MV:=
 gS sA fun dK=>
 gR f fun f1=>
 gB gY fun It=>
 bd (Loop (fun iZ=>
 gC iZ fun m dw=>
 gL m fun es=>
 gN dw<|
 b3 (rH es) (
 F7 f1 fun fn cap=>
 cR (!gv fn)<|
 bd (dk fn ([.i .i32 (lI es)]++cap)) fun rA=>
 gB rA fun x=>
 b3 (decide (x=It)) (
 some (.inr (1,[.i .i64 (iy es)]))) (
 some (.inl [.list (mW es)]))) (
 some (.inr (2,[])))) [.list ([.s dK,.i .i64 0]:List MV)]) fun p=>
 b3 (Nat.beq p.1 2) (
 gN p.2<|
 some (.i .i64 (-1))) (
 cR (Nat.beq p.1 1)<|
 gC p.2 fun m1 er=>
 gI .i64 m1 fun x1=>
 gN er<|
 some (.i .i64 x1))
noncomputable def my:Nat→List MV→Option MV:=cB 137 (Ip fH) kQ
theorem nY:aA Tryd.prog cx my:=oJ pG [] 21 [] [] [(2,⟨[1,2],[],[(10,.mp ⟨true,[],true⟩)],[(1,[(6,.sc (.k (.i .i64)))]),(2,[])],[]⟩)] Tryd.func137 (by kernel_rfl) (FO (fun _ _ _=>by kernel_rfl))
noncomputable def eA (sA f:MV):Option MV:=
 gS sA fun dK=>
 gR f fun f1=>
 bd (fH (.s dK) f1 (.b true)) fun rA=>
 gI .i64 rA fun x=>
 some (.i .i64 x)
noncomputable def kA:Nat→List MV→Option MV:=cB 118 (iY eA) my
theorem mG:aA Tryd.prog cx kA:=oJ nY [] 8 [] [] [] Tryd.func118 (by kernel_rfl) (ca (fun _ _=>by kernel_rfl))
noncomputable def dm (sA f:MV):Option MV:=
 gS sA fun dK=>
 gR f fun f1=>
 bd (eA (.s dK) f1) fun rA=>
 gI .i64 rA fun x=>
 some (.b (decide ((0:Int)≤x)))
noncomputable def iK:Nat→List MV→Option MV:=cB 81 (iY dm) kA
theorem kR:aA Tryd.prog cx iK:=oJ mG [] 9 [] [] [] Tryd.func81 (by kernel_rfl) (ca (fun _ _=>by kernel_rfl))
noncomputable def iL (sA:MV):Option MV:=
 gS sA fun dK=>
 bd (
 b3 (!decide (dK=([]:List UInt8))) (
 b3 (decide ((dK.length:Int)≤30)) (
 bd (sS [.s dK,.s ([97,98,99,100,101,102,103,104,105,106,107,108,109,110,111,112,113,114,115,116,117,118,119,120,121,122,48,49,50,51,52,53,54,55,56,57,45,95]:List UInt8)]) fun rA=>
 gS rA fun x=>
 b3 (decide (x=([]:List UInt8))) (
 bd (dm (.s dK) (.func 82 [])) fun bR=>
 gB bR fun x1=>
 some [.b (!x1)]) (
 some [.b false])) (
 some [.b false])) (
 some [.b false])) fun vs=>
 gC vs fun m iZ=>
 gB m fun x2=>
 gN iZ<|
 some (.b x2)
noncomputable def qV:Nat→List MV→Option MV:=cB 24 (oH iL) iK
theorem rh:aA Tryd.prog cx qV:=oJ kR [] 20 [(1,⟨[0],[],[],[(0,[(2,.sc (.k .b))])],[]⟩)] [] [] Tryd.func24 (by kernel_rfl) (e8 (fun _=>by kernel_rfl))
noncomputable def jo (sA:MV):Option MV:=
 gS sA fun dK=>
 bd (iL (.s dK)) fun rA=>
 gB rA fun x=>
 some (.b (!x))
noncomputable def l8:Nat→List MV→Option MV:=cB 108 (oH jo) qV
theorem qo:aA Tryd.prog cx l8:=oJ rh [] 6 [] [] [] Tryd.func108 (by kernel_rfl) (e8 (fun _=>by kernel_rfl))
noncomputable def cv:Nat→List MV→Option MV:=l8
theorem fN (x0:MV):cv 108 [x0]=jo x0:=by kernel_rfl
noncomputable def cN (sA f:MV):Option MV:=
 gL sA fun dK=>
 gR f fun f1=>
 fU dK fun len=>
 bd (Loop (fun iZ=>
 gC iZ fun m dw=>
 gI .i64 m fun x=>
 gN dw<|
 b3 (decide (x<(len:Int))) (
 idx dK x fun y=>
 gS y fun x1=>
 F7 f1 fun fn cap=>
 cR (!gv fn)<|
 bd (cv fn ([.s x1]++cap)) fun rA=>
 gB rA fun x2=>
 b3 x2 (
 some (.inr (1,[.i .i64 x]))) (
 some (.inl [.i .i64 (IntKind.wrap .i64 (x+1))]))) (
 some (.inr (2,[])))) [.i .i64 0]) fun p=>
 b3 (Nat.beq p.1 2) (
 gN p.2<|
 some (.i .i64 (-1))) (
 cR (Nat.beq p.1 1)<|
 gC p.2 fun m1 er=>
 gI .i64 m1 fun x3=>
 gN er<|
 some (.i .i64 x3))
noncomputable def gu:Nat→List MV→Option MV:=cB 132 (iY cN) l8
theorem jM:aA Tryd.prog cx gu:=oJ qo [] 19 [] [] [(2,⟨[0,1,7],[],[(8,.sc (.k (.i .i64)))],[(1,[(4,.sc (.k (.i .i64)))]),(2,[])],[]⟩)] Tryd.func132 (by kernel_rfl) (ca (fun _ _=>by kernel_rfl))
noncomputable def ck (sA f:MV):Option MV:=
 gL sA fun dK=>
 gR f fun f1=>
 bd (cN (.list dK) f1) fun rA=>
 gI .i64 rA fun x=>
 some (.b (decide ((0:Int)≤x)))
noncomputable def fa:Nat→List MV→Option MV:=cB 107 (iY ck) gu
theorem iM:aA Tryd.prog cx fa:=oJ jM [] 9 [] [] [] Tryd.func107 (by kernel_rfl) (ca (fun _ _=>by kernel_rfl))
noncomputable def eQ (p:MV):Option MV:=
 gS p fun p1=>
 bd (ez (.s p1) (.s ([47]:List UInt8))) fun rA=>
 gT rA fun vs=>
 gC vs fun m iZ=>
 gS m fun x=>
 gC iZ fun m1 dw=>
 gB m1 fun x1=>
 gN dw<|
 bd (
 b3 (!x1) (
 some [.b true]) (
 some [.b (decide ((100:Int)<(p1.length:Int)))])) fun mu=>
 gC mu fun m2 er=>
 gB m2 fun x2=>
 gN er<|
 b3 x2 (
 some (.fS [.list ([]:List MV),.b false])) (
 b3 (decide (x=([]:List UInt8))) (
 some (.fS [.list ([]:List MV),.b true])) (
 bd (nr [.s x,.s ([47]:List UInt8)]) fun bR=>
 gF bR fun xs=>
 bd (
 fU xs fun len=>
 b3 (decide ((len:Int)≤8)) (
 bd (ck (.list xs) (.func 108 [])) fun kP=>
 gB kP fun x3=>
 some [.list xs,.b (!x3),.list xs]) (
 some [.list xs,.b false,.list xs])) fun pB=>
 gC pB fun m3 jb=>
 gL m3 fun GU=>
 gC jb fun m4 jN=>
 gB m4 fun x4=>
 gC jN fun m5 oK=>
 gL m5 fun lA=>
 gN oK<|
 some (.fS [.list lA,.b x4])))
noncomputable def sW:Nat→List MV→Option MV:=cB 76 (oH eQ) fa
theorem sX:aA Tryd.prog cx sW:=oJ iM [] 34 [(7,⟨[],[],[],[(0,[(2,.sc (.own 24 9 true)),(3,.sc (.k .b)),(6,.sc (.own 24 9 true))])],[24]⟩),(2,⟨[0,4,5],[],[],[(0,[(12,.sc (.k .b))])],[24]⟩)] [] [] Tryd.func76 (by kernel_rfl) (e8 (fun _=>by kernel_rfl))
noncomputable def eR (p:MV):Option MV:=
 gS p fun p1=>
 bd (eQ (.s p1)) fun rA=>
 gT rA fun vs=>
 gC vs fun m iZ=>
 gL m fun x=>
 gC iZ fun m1 dw=>
 gB m1 fun x1=>
 gN dw<|
 some (.b x1)
noncomputable def sY:Nat→List MV→Option MV:=cB 26 (oH eR) sW
theorem sZ:aA Tryd.prog cx sY:=oJ sX [] 11 [] [] [] Tryd.func26 (by kernel_rfl) (e8 (fun _=>by kernel_rfl))
noncomputable def bZ (sA c:MV):Option MV:=
 gS sA fun dK=>
 gI .u8 c fun c1=>
 bd (Loop (fun iZ=>
 gC iZ fun m dw=>
 gI .i64 m fun i=>
 gN dw<|
 b3 (decide ((0:Int)≤i)) (
 cR (decide ((0:Int)≤i∧i<(dK.length:Int)))<|
 b3 (decide (((dK.getD (Int.toNat i) 0).toNat:Int)=c1)) (
 some (.inr (1,[.i .i64 i]))) (
 some (.inl [.i .i64 (IntKind.wrap .i64 (i-1))]))) (
 some (.inr (2,[])))) [.i .i64 (IntKind.wrap .i64 ((dK.length:Int)-1))]) fun p=>
 b3 (Nat.beq p.1 2) (
 gN p.2<|
 some (.i .i64 (-1))) (
 cR (Nat.beq p.1 1)<|
 gC p.2 fun m1 er=>
 gI .i64 m1 fun x=>
 gN er<|
 some (.i .i64 x))
noncomputable def eB:Nat→List MV→Option MV:=cB 109 (iY bZ) sY
theorem gO:aA Tryd.prog cx eB:=oJ sZ [] 19 [] [] [(2,⟨[0,1],[],[(5,.sc (.k (.i .i64)))],[(1,[(4,.sc (.k (.i .i64)))]),(2,[])],[]⟩)] Tryd.func109 (by kernel_rfl) (ca (fun _ _=>by kernel_rfl))
noncomputable def cw (sep:MV):Option MV:=
 gS sep fun FZ=>
 bd (Loop (fun iZ=>
 gC iZ fun m dw=>
 gI .u32 m fun hash=>
 gC dw fun m1 er=>
 gI .i64 m1 fun i=>
 gN er<|
 b3 (decide ((0:Int)≤i)) (
 cR (decide ((0:Int)≤i∧i<(FZ.length:Int)))<|
 some (.inl [.i .u32 (IntKind.wrap .u32 ((IntKind.wrap .u32 (hash *16777619))+(IntKind.wrap .u32 ((FZ.getD (Int.toNat i) 0).toNat:Int)))),.i .i64 (IntKind.wrap .i64 (i-1))])) (
 some (.inr (2,[.i .u32 hash])))) [.i .u32 0,.i .i64 (IntKind.wrap .i64 ((FZ.length:Int)-1))]) fun p=>
 cR (Nat.beq p.1 2)<|
 gC p.2 fun m2 jb=>
 gI .u32 m2 fun KH=>
 gN jb<|
 bd (Loop (fun jN=>
 gC jN fun m3 oK=>
 gI .u32 m3 fun pow=>
 gC oK fun m4 vS=>
 gI .u32 m4 fun sq=>
 gC vS fun m5 vT=>
 gI .i64 m5 fun i1=>
 gN vT<|
 b3 (decide ((0:Int)<i1)) (
 bd (
 b3 (!decide ((BI .i64 i1 1)=0)) (
 some (0,[.i .u32 (IntKind.wrap .u32 (pow *sq))])) (
 some (0,[.i .u32 pow]))) fun p2=>
 cR (Nat.beq p2.1 0)<|
 gC p2.2 fun m6 yZ=>
 gI .u32 m6 fun Nk=>
 gN yZ<|
 cR (decide ((0:Int)≤1))<|
 some (.inl [.i .u32 Nk,.i .u32 (IntKind.wrap .u32 (sq *sq)),.i .i64 (Int.fdiv i1 (2^min (Int.toNat 1) (IntKind.bits .i64)))])) (
 some (.inr (4,[.i .u32 pow])))) [.i .u32 1,.i .u32 16777619,.i .i64 (FZ.length:Int)]) fun p1=>
 cR (Nat.beq p1.1 4)<|
 gC p1.2 fun m7 Iu=>
 gI .u32 m7 fun Nl=>
 gN Iu<|
 some (.fS [.i .u32 KH,.i .u32 Nl])
noncomputable def fB:Nat→List MV→Option MV:=cB 133 (oH cw) eB
theorem jc:aA Tryd.prog cx fB:=oJ gO [] 40 [] [(11,⟨[4,7,8],[],[],[(0,[(6,.sc (.k (.i .u32)))])],[]⟩)] [(8,⟨[4],[],[(6,.sc (.k (.i .u32))),(7,.sc (.k (.i .u32))),(8,.sc (.k (.i .i64)))],[(4,[(6,.sc (.k (.i .u32)))])],[]⟩),(3,⟨[0],[],[(4,.sc (.k (.i .u32))),(5,.sc (.k (.i .i64)))],[(2,[(4,.sc (.k (.i .u32)))])],[]⟩)] Tryd.func133 (by kernel_rfl) (e8 (fun _=>by kernel_rfl))
noncomputable def bB (a a1:MV):Option MV:=
 gS a fun a2=>
 gS a1 fun nZ=>
 bd (cw (.s nZ)) fun rA=>
 gT rA fun vs=>
 gC vs fun m iZ=>
 gI .u32 m fun x=>
 gC iZ fun m1 dw=>
 gI .u32 m1 fun x1=>
 gN dw<|
 bd (Loop (fun er=>
 gC er fun m2 jb=>
 gI .u32 m2 fun x2=>
 gC jb fun m3 jN=>
 gI .i64 m3 fun x3=>
 gN jN<|
 b3 (decide ((IntKind.wrap .i64 ((a2.length:Int)-(nZ.length:Int)))≤x3)) (
 cR (decide ((0:Int)≤x3∧x3<(a2.length:Int)))<|
 some (.inl [.i .u32 (IntKind.wrap .u32 ((IntKind.wrap .u32 (x2 *16777619))+(IntKind.wrap .u32 ((a2.getD (Int.toNat x3) 0).toNat:Int)))),.i .i64 (IntKind.wrap .i64 (x3-1))])) (
 some (.inr (2,[.i .u32 x2])))) [.i .u32 0,.i .i64 (IntKind.wrap .i64 ((a2.length:Int)-1))]) fun p=>
 cR (Nat.beq p.1 2)<|
 gC p.2 fun m4 oK=>
 gI .u32 m4 fun x4=>
 gN oK<|
 bd (
 b3 (decide (x4=x)) (
 cR (decide ((0:Int)≤(IntKind.wrap .i64 ((a2.length:Int)-(nZ.length:Int)))∧(IntKind.wrap .i64 ((a2.length:Int)-(nZ.length:Int)))≤(a2.length:Int)∧(a2.length:Int)≤(a2.length:Int)))<|
 some [.b (decide ((List.drop (Int.toNat (IntKind.wrap .i64 ((a2.length:Int)-(nZ.length:Int)))) (List.take (Int.toNat (a2.length:Int)) a2))=nZ))]) (
 some [.b false])) fun mu=>
 gC mu fun m5 vS=>
 gB m5 fun x5=>
 gN vS<|
 b3 x5 (
 some (.i .i64 (IntKind.wrap .i64 ((a2.length:Int)-(nZ.length:Int))))) (
 bd (Loop (fun vT=>
 gC vT fun m6 yZ=>
 gI .u32 m6 fun x6=>
 gC yZ fun m7 Iu=>
 gI .i64 m7 fun x7=>
 gN Iu<|
 b3 (decide ((0:Int)≤x7)) (
 cR (decide ((0:Int)≤x7∧x7<(a2.length:Int)))<|
 cR (decide ((0:Int)≤(IntKind.wrap .i64 (x7+(nZ.length:Int)))∧(IntKind.wrap .i64 (x7+(nZ.length:Int)))<(a2.length:Int)))<|
 bd (
 b3 (decide ((IntKind.wrap .u32 ((IntKind.wrap .u32 ((IntKind.wrap .u32 (x6 *16777619))+(IntKind.wrap .u32 ((a2.getD (Int.toNat x7) 0).toNat:Int))))-(IntKind.wrap .u32 (x1 *(IntKind.wrap .u32 ((a2.getD (Int.toNat (IntKind.wrap .i64 (x7+(nZ.length:Int)))) 0).toNat:Int))))))=x)) (
 cR (decide ((0:Int)≤x7∧x7≤(IntKind.wrap .i64 (x7+(nZ.length:Int)))∧(IntKind.wrap .i64 (x7+(nZ.length:Int)))≤(a2.length:Int)))<|
 some [.b (decide ((List.drop (Int.toNat x7) (List.take (Int.toNat (IntKind.wrap .i64 (x7+(nZ.length:Int)))) a2))=nZ))]) (
 some [.b false])) fun pB=>
 gC pB fun m8 KI=>
 gB m8 fun x8=>
 gN KI<|
 b3 x8 (
 some (.inr (1,[.i .i64 x7]))) (
 some (.inl [.i .u32 (IntKind.wrap .u32 ((IntKind.wrap .u32 ((IntKind.wrap .u32 (x6 *16777619))+(IntKind.wrap .u32 ((a2.getD (Int.toNat x7) 0).toNat:Int))))-(IntKind.wrap .u32 (x1 *(IntKind.wrap .u32 ((a2.getD (Int.toNat (IntKind.wrap .i64 (x7+(nZ.length:Int)))) 0).toNat:Int)))))),.i .i64 (IntKind.wrap .i64 (x7-1))]))) (
 some (.inr (4,[])))) [.i .u32 x4,.i .i64 (IntKind.wrap .i64 ((IntKind.wrap .i64 ((a2.length:Int)-(nZ.length:Int)))-1))]) fun p1=>
 b3 (Nat.beq p1.1 4) (
 gN p1.2<|
 some (.i .i64 (-1))) (
 cR (Nat.beq p1.1 1)<|
 gC p1.2 fun m9 KJ=>
 gI .i64 m9 fun x9=>
 gN KJ<|
 some (.i .i64 x9)))
noncomputable def dn:Nat→List MV→Option MV:=cB 110 (iY bB) fB
theorem fg:aA Tryd.prog cx dn:=oJ jc [] 87 [(17,⟨[0,1,5,6,7,9,11],[],[],[(0,[(85,.sc (.k .b))])],[]⟩),(9,⟨[0,1,5,6,7,8,9],[],[],[(0,[(47,.sc (.k .b))])],[]⟩)] [] [(12,⟨[0,1,5,6,7],[],[(9,.sc (.k (.i .u32))),(11,.sc (.k (.i .i64)))],[(1,[(4,.sc (.k (.i .i64)))]),(4,[])],[]⟩),(6,⟨[0,1,5,6,7,8],[],[(9,.sc (.k (.i .u32))),(10,.sc (.k (.i .i64)))],[(2,[(9,.sc (.k (.i .u32)))])],[]⟩)] Tryd.func110 (by kernel_rfl) (ca (fun _ _=>by kernel_rfl))
noncomputable def eC (sA substr:MV):Option MV:=
 gS sA fun dK=>
 gS substr fun kC=>
 b3 (decide ((kC.length:Int)=0)) (
 some (.i .i64 (dK.length:Int))) (
 b3 (decide ((kC.length:Int)=1)) (
 cR (decide ((0:Int)≤0∧(0:Int)<(kC.length:Int)))<|
 bd (bZ (.s dK) (.i .u8 ((kC.getD (Int.toNat 0) 0).toNat:Int))) fun rA=>
 gI .i64 rA fun x=>
 some (.i .i64 x)) (
 b3 (decide ((kC.length:Int)=(dK.length:Int))) (
 b3 (decide (kC=dK)) (
 some (.i .i64 0)) (
 some (.i .i64 (-1)))) (
 b3 (decide ((dK.length:Int)<(kC.length:Int))) (
 some (.i .i64 (-1))) (
 bd (bB (.s dK) (.s kC)) fun bR=>
 gI .i64 bR fun x1=>
 some (.i .i64 x1)))))
noncomputable def kD:Nat→List MV→Option MV:=cB 78 (iY eC) dn
theorem mH:aA Tryd.prog cx kD:=oJ fg [] 36 [] [] [] Tryd.func78 (by kernel_rfl) (ca (fun _ _=>by kernel_rfl))
noncomputable def iN (p:MV):Option MV:=
 gS p fun p1=>
 bd (eR (.s p1)) fun rA=>
 gB rA fun x=>
 b3 (!x) (
 some (.fS [.s ([]:List UInt8),.i .i64 13])) (
 b3 (decide (p1=([47]:List UInt8))) (
 some (.fS [.s ([]:List UInt8),.i .i64 6])) (
 bd (eC (.s p1) (.s ([47]:List UInt8))) fun bR=>
 gI .i64 bR fun x1=>
 cR (decide ((0:Int)≤0∧(0:Int)≤(imax 1 x1)∧(imax 1 x1)≤(p1.length:Int)))<|
 some (.fS [.s (List.drop (Int.toNat 0) (List.take (Int.toNat (imax 1 x1)) p1)),.i .i64 0])))
noncomputable def qW:Nat→List MV→Option MV:=cB 22 (oH iN) kD
theorem rj:aA Tryd.prog cx qW:=oJ mH [] 16 [] [] [] Tryd.func22 (by kernel_rfl) (e8 (fun _=>by kernel_rfl))
noncomputable def eh (x:MV):Option MV:=
 gS x fun x1=>
 some (.b (!decide (x1=x1)))
noncomputable def mz:Nat→List MV→Option MV:=cB 142 (oH eh) qW
theorem n0:aA Tryd.prog cx mz:=oJ rj [] 6 [] [] [] Tryd.func142 (by kernel_rfl) (e8 (fun _=>by kernel_rfl))
noncomputable def eD (x y:MV):Option MV:=
 gS x fun x1=>
 gS y fun y1=>
 bd (eh (.s x1)) fun rA=>
 gB rA fun x2=>
 bd (eh (.s y1)) fun bR=>
 gB bR fun x3=>
 b3 x2 (
 b3 x3 (
 some (.i .i64 0)) (
 some (.i .i64 (-1)))) (
 b3 x3 (
 some (.i .i64 1)) (
 b3 (Op.bytesLess x1 y1) (
 some (.i .i64 (-1))) (
 b3 (!(Op.bytesLess x1 y1||decide (x1=y1))) (
 some (.i .i64 1)) (
 some (.i .i64 0)))))
noncomputable def kE:Nat→List MV→Option MV:=cB 120 (iY eD) mz
theorem mI:aA Tryd.prog cx kE:=oJ n0 [] 20 [] [] [] Tryd.func120 (by kernel_rfl) (ca (fun _ _=>by kernel_rfl))
noncomputable def dp (s1 s2:MV):Option MV:=
 gL s1 fun y4=>
 gL s2 fun Be=>
 fU y4 fun len=>
 bd (Loop (fun iZ=>
 gC iZ fun m dw=>
 gI .i64 m fun x=>
 gN dw<|
 b3 (decide (x<(len:Int))) (
 idx y4 x fun y=>
 gS y fun x1=>
 fU Be fun oL=>
 b3 (decide ((oL:Int)≤x)) (
 some (.inr (1,[.i .i64 1]))) (
 idx Be x fun y1=>
 gS y1 fun x2=>
 bd (eD (.s x1) (.s x2)) fun rA=>
 gI .i64 rA fun x3=>
 b3 (!decide (x3=0)) (
 some (.inr (1,[.i .i64 x3]))) (
 some (.inl [.i .i64 (IntKind.wrap .i64 (x+1))])))) (
 some (.inr (2,[])))) [.i .i64 0]) fun p=>
 b3 (Nat.beq p.1 2) (
 gN p.2<|
 fU y4 fun qp=>
 fU Be fun y5=>
 b3 (decide ((qp:Int)<(y5:Int))) (
 some (.i .i64 (-1))) (
 some (.i .i64 0))) (
 cR (Nat.beq p.1 1)<|
 gC p.2 fun m1 er=>
 gI .i64 m1 fun x4=>
 gN er<|
 some (.i .i64 x4))
noncomputable def iO:Nat→List MV→Option MV:=cB 84 (iY dp) kE
theorem kS:aA Tryd.prog cx iO:=oJ mI [] 36 [] [] [(2,⟨[0,1,9,10],[],[(11,.sc (.k (.i .i64)))],[(1,[(4,.sc (.k (.i .i64)))]),(2,[])],[]⟩)] Tryd.func84 (by kernel_rfl) (ca (fun _ _=>by kernel_rfl))
noncomputable def jO (p q:MV):Option MV:=
 gS p fun p1=>
 gS q fun q1=>
 bd (eQ (.s p1)) fun rA=>
 gT rA fun vs=>
 gC vs fun m iZ=>
 gL m fun x=>
 gC iZ fun m1 dw=>
 gB m1 fun x1=>
 gN dw<|
 bd (eQ (.s q1)) fun bR=>
 gT bR fun mu=>
 gC mu fun m2 er=>
 gL m2 fun x2=>
 gC er fun m3 jb=>
 gB m3 fun x3=>
 gN jb<|
 bd (
 b3 x1 (
 b3 x3 (
 bd (dp (.list x) (.list x2)) fun kP=>
 gI .i64 kP fun x4=>
 some [.b (decide (x4<0))]) (
 some [.b false])) (
 some [.b false])) fun pB=>
 gC pB fun m4 jN=>
 gB m4 fun x5=>
 gN jN<|
 some (.b x5)
noncomputable def s4:Nat→List MV→Option MV:=cB 29 (iY jO) iO
theorem s5:aA Tryd.prog cx s4:=oJ kS [] 29 [(3,⟨[5,6,7,8],[],[],[(0,[(4,.sc (.k .b))])],[]⟩)] [] [] Tryd.func29 (by kernel_rfl) (ca (fun _ _=>by kernel_rfl))
noncomputable def lB:Option MV:=
 bd (iN (.s ([47,97,47,98]:List UInt8))) fun rA=>
 gT rA fun vs=>
 gC vs fun m iZ=>
 gS m fun x=>
 gC iZ fun m1 dw=>
 gI .i64 m1 fun x1=>
 gN dw<|
 bd (iN (.s ([47]:List UInt8))) fun bR=>
 gT bR fun mu=>
 gC mu fun m2 er=>
 gS m2 fun x2=>
 gC er fun m3 jb=>
 gI .i64 m3 fun x3=>
 gN jb<|
 bd (
 b3 (decide (x=([47,97]:List UInt8))) (
 b3 (decide (x1=0)) (
 b3 (decide (x3=6)) (
 bd (eR (.s ([47]:List UInt8))) fun kP=>
 gB kP fun x4=>
 b3 x4 (
 bd (eR (.s ([97]:List UInt8))) fun tM=>
 gB tM fun x5=>
 b3 (!x5) (
 bd (jO (.s ([47,97,47,98]:List UInt8)) (.s ([47,97,45,98]:List UInt8))) fun DX=>
 gB DX fun x6=>
 some [.b x6]) (
 some [.b false])) (
 some [.b false])) (
 some [.b false])) (
 some [.b false])) (
 some [.b false])) fun pB=>
 gC pB fun m4 jN=>
 gB m4 fun x7=>
 gN jN<|
 some (.b x7)
noncomputable def uN:Nat→List MV→Option MV:=cB 19 (Io lB) s4
theorem tN:aA Tryd.prog cx uN:=oJ s5 [] 33 [(3,⟨[1,2,4],[],[],[(0,[(0,.sc (.k .b))])],[]⟩)] [] [] Tryd.func19 (by kernel_rfl) (FN (by kernel_rfl))
noncomputable def jP (sA:MV):Option MV:=
 gS sA fun dK=>
 bd (Loop (fun iZ=>
 gC iZ fun m dw=>
 gI .i64 m fun i=>
 gN dw<|
 b3 (decide (i<(dK.length:Int))) (
 cR (decide ((0:Int)≤i∧i<(dK.length:Int)))<|
 bd (
 b3 (decide ((97:Int)≤((dK.getD (Int.toNat i) 0).toNat:Int))) (
 b3 (decide (((dK.getD (Int.toNat i) 0).toNat:Int)≤122)) (
 some [.b true]) (
 b3 (decide ((48:Int)≤((dK.getD (Int.toNat i) 0).toNat:Int))) (
 b3 (decide (((dK.getD (Int.toNat i) 0).toNat:Int)≤57)) (
 some [.b true]) (
 b3 (decide (((dK.getD (Int.toNat i) 0).toNat:Int)=45)) (
 some [.b true]) (
 some [.b (decide (((dK.getD (Int.toNat i) 0).toNat:Int)=95))]))) (
 b3 (decide (((dK.getD (Int.toNat i) 0).toNat:Int)=45)) (
 some [.b true]) (
 some [.b (decide (((dK.getD (Int.toNat i) 0).toNat:Int)=95))])))) (
 b3 (decide ((48:Int)≤((dK.getD (Int.toNat i) 0).toNat:Int))) (
 b3 (decide (((dK.getD (Int.toNat i) 0).toNat:Int)≤57)) (
 some [.b true]) (
 b3 (decide (((dK.getD (Int.toNat i) 0).toNat:Int)=45)) (
 some [.b true]) (
 some [.b (decide (((dK.getD (Int.toNat i) 0).toNat:Int)=95))]))) (
 b3 (decide (((dK.getD (Int.toNat i) 0).toNat:Int)=45)) (
 some [.b true]) (
 some [.b (decide (((dK.getD (Int.toNat i) 0).toNat:Int)=95))])))) fun vs=>
 gC vs fun m1 er=>
 gB m1 fun letter=>
 gN er<|
 b3 (!letter) (
 some (.inr (1,[.b false]))) (
 some (.inl [.i .i64 (IntKind.wrap .i64 (i+1))]))) (
 some (.inr (2,[])))) [.i .i64 0]) fun p=>
 b3 (Nat.beq p.1 2) (
 gN p.2<|
 bd (
 b3 (decide ((1:Int)≤(dK.length:Int))) (
 some [.b (decide ((dK.length:Int)≤30))]) (
 some [.b false])) fun mu=>
 gC mu fun m2 jb=>
 gB m2 fun x=>
 gN jb<|
 some (.b x)) (
 cR (Nat.beq p.1 1)<|
 gC p.2 fun m3 jN=>
 gB m3 fun x1=>
 gN jN<|
 some (.b x1))
noncomputable def s6:Nat→List MV→Option MV:=cB 25 (oH jP) uN
theorem s7:aA Tryd.prog cx s6:=oJ tN [] 47 [(8,⟨[0],[],[],[(0,[(2,.sc (.k .b))])],[]⟩),(5,⟨[0,3,4],[],[],[(0,[(5,.sc (.k .b))])],[]⟩)] [] [(2,⟨[0],[],[(3,.sc (.k (.i .i64)))],[(1,[(2,.sc (.k .b))]),(2,[])],[]⟩)] Tryd.func25 (by kernel_rfl) (e8 (fun _=>by kernel_rfl))
noncomputable def pH (p:MV):Option MV:=
 gS p fun p1=>
 bd (
 b3 (decide ((p1.length:Int)=0)) (
 some [.b true]) (
 cR (decide ((0:Int)≤0∧(0:Int)<(p1.length:Int)))<|
 some [.b (!decide (((p1.getD (Int.toNat 0) 0).toNat:Int)=47))])) fun vs=>
 gC vs fun m iZ=>
 gB m fun x=>
 gN iZ<|
 b3 x (
 some (.fS [.fresh ([]:List MV),.b false])) (
 b3 (decide (p1=([47]:List UInt8))) (
 some (.fS [.fresh ([]:List MV),.b true])) (
 bd (Loop (fun dw=>
 gC dw fun m1 er=>
 gL m1 fun out=>
 gC er fun m2 jb=>
 gS m2 fun name=>
 gC jb fun m3 jN=>
 gI .i64 m3 fun i=>
 gN jN<|
 b3 (decide (i<(p1.length:Int))) (
 cR (decide ((0:Int)≤i∧i<(p1.length:Int)))<|
 bd (
 b3 (decide (((p1.getD (Int.toNat i) 0).toNat:Int)=47)) (
 fU out fun len=>
 fU ([.s name]:List MV) fun oL=>
 cR (decide ((len+oL) *16≤2^46))<|
 some (0,[.list (out++([.s name]:List MV)),.s ([]:List UInt8)])) (
 cR (decide ((0:Int)≤i∧i<(p1.length:Int)))<|
 vd ([.i .u8 ((p1.getD (Int.toNat i) 0).toNat:Int)]:List MV) fun bs=>
 cR (decide (name.length+bs.length≤2^46))<|
 some (0,[.list out,.s (name++bs)]))) fun p3=>
 cR (Nat.beq p3.1 0)<|
 gC p3.2 fun m4 oK=>
 gL m4 fun F0=>
 gC oK fun m5 vS=>
 gS m5 fun ol=>
 gN vS<|
 some (.inl [.list F0,.s ol,.i .i64 (IntKind.wrap .i64 (i+1))])) (
 some (.inr (2,[.list out,.s name])))) [.list ([]:List MV),.s ([]:List UInt8),.i .i64 1]) fun p2=>
 cR (Nat.beq p2.1 2)<|
 gC p2.2 fun m6 vT=>
 gL m6 fun KK=>
 gC vT fun m7 yZ=>
 gS m7 fun GV=>
 gN yZ<|
 fU KK fun qp=>
 fU ([.s GV]:List MV) fun y5=>
 cR (decide ((qp+y5) *16≤2^46))<|
 some (.fS [.fresh (KK++([.s GV]:List MV)),.b true])))
noncomputable def zT:Nat→List MV→Option MV:=cB 77 (oH pH) s6
theorem xz:aA Tryd.prog cx zT:=Oz s7 9 [] [] 46 [32,43] [] [] [] [(2,⟨[0,4],[7],[],[(0,[(15,.sc (.k .b))])],[]⟩)] [(11,⟨[0,6],[],[],[(0,[(4,.sc (.own 7 9 false)),(5,.sc (.k .s))])],[]⟩)] [(8,⟨[0],[],[(4,.sc (.own 7 9 false)),(5,.sc (.k .s)),(6,.sc (.k (.i .i64)))],[(2,[(4,.sc (.own 7 9 false)),(5,.sc (.k .s))])],[]⟩)] [] Tryd.func77 (by kernel_rfl) (by kernel_rfl) (e8 (fun _=>by kernel_rfl))
noncomputable def lC (p:MV):Option MV:=
 gS p fun p1=>
 b3 (decide ((100:Int)<(p1.length:Int))) (
 some (.b false)) (
 bd (pH (.s p1)) fun rA=>
 gT rA fun vs=>
 gC vs fun m iZ=>
 gF m fun xs=>
 gC iZ fun m1 dw=>
 gB m1 fun x=>
 gN dw<|
 bd (Loop (fun er=>
 gC er fun m2 jb=>
 gI .i64 m2 fun i=>
 gN jb<|
 fU xs fun len=>
 b3 (decide (i<(len:Int))) (
 idx xs i fun y=>
 gS y fun x1=>
 bd (jP (.s x1)) fun bR=>
 gB bR fun x2=>
 b3 (!x2) (
 some (.inr (1,[.b false]))) (
 some (.inl [.i .i64 (IntKind.wrap .i64 (i+1))]))) (
 some (.inr (2,[])))) [.i .i64 0]) fun p2=>
 b3 (Nat.beq p2.1 2) (
 gN p2.2<|
 bd (
 b3 x (
 fU xs fun oL=>
 some [.b (decide ((oL:Int)≤8))]) (
 some [.b false])) fun mu=>
 gC mu fun m3 jN=>
 gB m3 fun x3=>
 gN jN<|
 some (.b x3)) (
 cR (Nat.beq p2.1 1)<|
 gC p2.2 fun m4 oK=>
 gB m4 fun x4=>
 gN oK<|
 some (.b x4)))
noncomputable def uO:Nat→List MV→Option MV:=cB 27 (oH lC) zT
theorem tO:aA Tryd.prog cx uO:=IY xz [] [] 32 [11] [] [] [] [(9,⟨[3,4],[],[],[(0,[(2,.sc (.k .b))])],[]⟩)] [] [(5,⟨[3,4],[],[(5,.sc (.k (.i .i64)))],[(1,[(2,.sc (.k .b))]),(2,[])],[]⟩)] [] Tryd.func27 (by kernel_rfl) (e8 (fun _=>by kernel_rfl))
noncomputable def fR (p:MV):Option MV:=
 gS p fun p1=>
 bd (lC (.s p1)) fun rA=>
 gB rA fun x=>
 b3 (!x) (
 some (.fS [.fresh ([]:List MV),.i .i64 13])) (
 bd (pH (.s p1)) fun bR=>
 gT bR fun vs=>
 gC vs fun m iZ=>
 gF m fun xs=>
 gC iZ fun m1 dw=>
 gB m1 fun x1=>
 gN dw<|
 some (.fS [.fresh xs,.i .i64 0]))
noncomputable def uP:Nat→List MV→Option MV:=cB 21 (oH fR) uO
theorem tP:aA Tryd.prog cx uP:=Oz tO 9 [] [] 15 [] [] [] [] [] [] [] [] Tryd.func21 (by kernel_rfl) (by kernel_rfl) (e8 (fun _=>by kernel_rfl))
noncomputable def pI (lA:MV):Option MV:=
 gL lA fun OA=>
 bd (Loop (fun iZ=>
 gC iZ fun m dw=>
 gS m fun out=>
 gC dw fun m1 er=>
 gI .i64 m1 fun i=>
 gN er<|
 fU OA fun len=>
 b3 (decide (i<(len:Int))) (
 cR (decide (out.length+([47]:List UInt8).length≤2^46))<|
 idx OA i fun y=>
 gS y fun x=>
 cR (decide ((out++([47]:List UInt8)).length+x.length≤2^46))<|
 some (.inl [.s ((out++([47]:List UInt8))++x),.i .i64 (IntKind.wrap .i64 (i+1))])) (
 some (.inr (2,[.s out])))) [.s ([]:List UInt8),.i .i64 0]) fun p=>
 cR (Nat.beq p.1 2)<|
 gC p.2 fun m2 jb=>
 gS m2 fun F0=>
 gN jb<|
 b3 (decide (F0=([]:List UInt8))) (
 some (.s ([47]:List UInt8))) (
 some (.s F0))
noncomputable def xA:Nat→List MV→Option MV:=cB 79 (oH pI) uP
theorem vU:aA Tryd.prog cx xA:=oJ tP [] 21 [] [] [(3,⟨[0],[],[(3,.sc (.k .s)),(4,.sc (.k (.i .i64)))],[(2,[(3,.sc (.k .s))])],[]⟩)] Tryd.func79 (by kernel_rfl) (e8 (fun _=>by kernel_rfl))
noncomputable def dS (s1 s2:MV):Option MV:=
 gL s1 fun y4=>
 gL s2 fun Be=>
 fU y4 fun len=>
 fU Be fun oL=>
 b3 (!decide ((len:Int)=(oL:Int))) (
 some (.b false)) (
 fU y4 fun qp=>
 bd (Loop (fun iZ=>
 gC iZ fun m dw=>
 gI .i64 m fun x=>
 gN dw<|
 b3 (decide (x<(qp:Int))) (
 idx y4 x fun y=>
 gS y fun x1=>
 idx Be x fun y1=>
 gS y1 fun x2=>
 b3 (!decide (x1=x2)) (
 some (.inr (1,[.b false]))) (
 some (.inl [.i .i64 (IntKind.wrap .i64 (x+1))]))) (
 some (.inr (2,[])))) [.i .i64 0]) fun p=>
 b3 (Nat.beq p.1 2) (
 gN p.2<|
 some (.b true)) (
 cR (Nat.beq p.1 1)<|
 gC p.2 fun m1 er=>
 gB m1 fun x3=>
 gN er<|
 some (.b x3)))
noncomputable def jQ:Nat→List MV→Option MV:=cB 85 (iY dS) xA
theorem l9:aA Tryd.prog cx jQ:=IY vU [] [] 26 [] [] [] [(6,[0,1,2,3,4,5,6,7,8])] [] [] [(4,⟨[0,1,12],[],[(13,.sc (.k (.i .i64)))],[(1,[(4,.sc (.k .b))]),(2,[])],[]⟩)] [] Tryd.func85 (by kernel_rfl) (ca (fun _ _=>by kernel_rfl))
noncomputable def ma (p q:MV):Option MV:=
 gS p fun p1=>
 gS q fun q1=>
 bd (eQ (.s p1)) fun rA=>
 gT rA fun vs=>
 gC vs fun m iZ=>
 gL m fun x=>
 gC iZ fun m1 dw=>
 gB m1 fun x1=>
 gN dw<|
 bd (eQ (.s q1)) fun bR=>
 gT bR fun mu=>
 gC mu fun m2 er=>
 gL m2 fun x2=>
 gC er fun m3 jb=>
 gB m3 fun x3=>
 gN jb<|
 bd (
 b3 x1 (
 b3 x3 (
 fU x2 fun len=>
 fU x fun oL=>
 b3 (decide ((oL:Int)<(len:Int))) (
 fU x fun qp=>
 fU x2 fun y5=>
 cR (decide ((0:Int)≤0∧(0:Int)≤(qp:Int)∧(qp:Int)≤(y5:Int)))<|
 bd (dS (.list x) (.list (List.drop (Int.toNat 0) (List.take (Int.toNat (qp:Int)) x2)))) fun kP=>
 gB kP fun x4=>
 some [.b x4]) (
 some [.b false])) (
 some [.b false])) (
 some [.b false])) fun pB=>
 gC pB fun m4 jN=>
 gB m4 fun x5=>
 gN jN<|
 some (.b x5)
noncomputable def s8:Nat→List MV→Option MV:=cB 30 (iY ma) jQ
theorem s9:aA Tryd.prog cx s8:=oJ l9 [] 38 [(3,⟨[5,6,7,8],[],[],[(0,[(4,.sc (.k .b))])],[]⟩)] [] [] Tryd.func30 (by kernel_rfl) (ca (fun _ _=>by kernel_rfl))
noncomputable def c6 (sA suffix:MV):Option MV:=
 gS sA fun dK=>
 gS suffix fun fI=>
 bd (
 b3 (decide ((fI.length:Int)≤(dK.length:Int))) (
 cR (decide ((0:Int)≤(IntKind.wrap .i64 ((dK.length:Int)-(fI.length:Int)))∧(IntKind.wrap .i64 ((dK.length:Int)-(fI.length:Int)))≤(dK.length:Int)∧(dK.length:Int)≤(dK.length:Int)))<|
 some [.b (decide ((List.drop (Int.toNat (IntKind.wrap .i64 ((dK.length:Int)-(fI.length:Int)))) (List.take (Int.toNat (dK.length:Int)) dK))=fI))]) (
 some [.b false])) fun vs=>
 gC vs fun m iZ=>
 gB m fun x=>
 gN iZ<|
 some (.b x)
noncomputable def hM:Nat→List MV→Option MV:=cB 143 (iY c6) s8
theorem kb:aA Tryd.prog cx hM:=oJ s9 [] 21 [(1,⟨[0,1],[],[],[(0,[(4,.sc (.k .b))])],[]⟩)] [] [] Tryd.func143 (by kernel_rfl) (ca (fun _ _=>by kernel_rfl))
noncomputable def cO (sA suffix:MV):Option MV:=
 gS sA fun dK=>
 gS suffix fun fI=>
 bd (c6 (.s dK) (.s fI)) fun rA=>
 gB rA fun x=>
 b3 x (
 cR (decide ((0:Int)≤0∧(0:Int)≤(IntKind.wrap .i64 ((dK.length:Int)-(fI.length:Int)))∧(IntKind.wrap .i64 ((dK.length:Int)-(fI.length:Int)))≤(dK.length:Int)))<|
 some (.s (List.drop (Int.toNat 0) (List.take (Int.toNat (IntKind.wrap .i64 ((dK.length:Int)-(fI.length:Int)))) dK)))) (
 some (.s dK))
noncomputable def gw:Nat→List MV→Option MV:=cB 123 (iY cO) hM
theorem jR:aA Tryd.prog cx gw:=oJ kb [] 16 [] [] [] Tryd.func123 (by kernel_rfl) (ca (fun _ _=>by kernel_rfl))
noncomputable def dT (sA suffix:MV):Option MV:=
 gS sA fun dK=>
 gS suffix fun fI=>
 bd (cO (.s dK) (.s fI)) fun rA=>
 gS rA fun x=>
 some (.s x)
noncomputable def jS:Nat→List MV→Option MV:=cB 92 (iY dT) gw
theorem mb:aA Tryd.prog cx jS:=oJ jR [] 8 [] [] [] Tryd.func92 (by kernel_rfl) (ca (fun _ _=>by kernel_rfl))
noncomputable def nP (p name:MV):Option MV:=
 gS p fun p1=>
 gS name fun ol=>
 bd (dT (.s p1) (.s ([47]:List UInt8))) fun rA=>
 gS rA fun x=>
 cR (decide (x.length+([47]:List UInt8).length≤2^46))<|
 cR (decide ((x++([47]:List UInt8)).length+ol.length≤2^46))<|
 bd (
 bd (eR (.s p1)) fun bR=>
 gB bR fun x1=>
 b3 (!x1) (
 some [.b true]) (
 bd (iL (.s ol)) fun kP=>
 gB kP fun x2=>
 b3 (!x2) (
 some [.b true]) (
 bd (eR (.s ((x++([47]:List UInt8))++ol))) fun tM=>
 gB tM fun x3=>
 some [.b (!x3)]))) fun vs=>
 gC vs fun m iZ=>
 gB m fun x4=>
 gN iZ<|
 b3 x4 (
 some (.fS [.s ([]:List UInt8),.i .i64 13])) (
 some (.fS [.s ((x++([47]:List UInt8))++ol),.i .i64 0]))
noncomputable def uQ:Nat→List MV→Option MV:=cB 48 (iY nP) jS
theorem tQ:aA Tryd.prog cx uQ:=oJ mb [] 26 [(2,⟨[0,1,6],[],[],[(0,[(24,.sc (.k .b))])],[]⟩)] [] [] Tryd.func48 (by kernel_rfl) (ca (fun _ _=>by kernel_rfl))
noncomputable def pJ (p name:MV):Option MV:=
 gS p fun p1=>
 gS name fun ol=>
 bd (fR (.s p1)) fun rA=>
 gT rA fun vs=>
 gC vs fun m iZ=>
 gF m fun xs=>
 gC iZ fun m1 dw=>
 gI .i64 m1 fun x=>
 gN dw<|
 bd (
 b3 (!decide (x=0)) (
 some [.b true]) (
 bd (jP (.s ol)) fun bR=>
 gB bR fun x1=>
 some [.b (!x1)])) fun mu=>
 gC mu fun m2 er=>
 gB m2 fun x2=>
 gN er<|
 b3 x2 (
 some (.fS [.s ([]:List UInt8),.i .i64 13])) (
 fU xs fun len=>
 fU ([.s ol]:List MV) fun oL=>
 cR (decide ((len+oL) *16≤2^46))<|
 bd (pI (.list (xs++([.s ol]:List MV)))) fun kP=>
 gS kP fun x3=>
 bd (lC (.s x3)) fun tM=>
 gB tM fun x4=>
 b3 (!x4) (
 some (.fS [.s ([]:List UInt8),.i .i64 13])) (
 some (.fS [.s x3,.i .i64 0])))
noncomputable def xB:Nat→List MV→Option MV:=cB 49 (iY pJ) uQ
theorem vV:aA Tryd.prog cx xB:=IY tQ [] [] 31 [23] [] [] [] [(2,⟨[1,6,7],[11],[],[(0,[(20,.sc (.k .b))])],[11]⟩)] [] [] [] Tryd.func49 (by kernel_rfl) (ca (fun _ _=>by kernel_rfl))
noncomputable def nQ (p q:MV):Option MV:=
 gS p fun p1=>
 gS q fun q1=>
 bd (fR (.s p1)) fun rA=>
 gT rA fun vs=>
 gC vs fun m iZ=>
 gF m fun xs=>
 gC iZ fun m1 dw=>
 gI .i64 m1 fun x=>
 gN dw<|
 bd (fR (.s q1)) fun bR=>
 gT bR fun mu=>
 gC mu fun m2 er=>
 gF m2 fun GU=>
 gC er fun m3 jb=>
 gI .i64 m3 fun x1=>
 gN jb<|
 bd (
 b3 (!decide (x=0)) (
 some [.b true]) (
 b3 (!decide (x1=0)) (
 some [.b true]) (
 fU GU fun len=>
 fU xs fun oL=>
 some [.b (decide ((len:Int)≤(oL:Int)))]))) fun pB=>
 gC pB fun m4 jN=>
 gB m4 fun x2=>
 gN jN<|
 b3 x2 (
 some (.b false)) (
 bd (Loop (fun oK=>
 gC oK fun m5 vS=>
 gI .i64 m5 fun i=>
 gN vS<|
 fU xs fun qp=>
 b3 (decide (i<(qp:Int))) (
 idx xs i fun y=>
 gS y fun x3=>
 idx GU i fun y1=>
 gS y1 fun x4=>
 b3 (!decide (x3=x4)) (
 some (.inr (1,[.b false]))) (
 some (.inl [.i .i64 (IntKind.wrap .i64 (i+1))]))) (
 some (.inr (2,[])))) [.i .i64 0]) fun p2=>
 b3 (Nat.beq p2.1 2) (
 gN p2.2<|
 some (.b true)) (
 cR (Nat.beq p2.1 1)<|
 gC p2.2 fun m6 vT=>
 gB m6 fun x5=>
 gN vT<|
 some (.b x5)))
noncomputable def uR:Nat→List MV→Option MV:=cB 50 (iY nQ) xB
theorem tR:aA Tryd.prog cx uR:=IY vV [] [] 48 [12,17] [] [] [(8,[0,1,2,3,4,5,6,7,8])] [(3,⟨[5,6,7,8],[],[],[(0,[(32,.sc (.k .b))])],[]⟩)] [] [(6,⟨[5,7],[],[(9,.sc (.k (.i .i64)))],[(1,[(4,.sc (.k .b))]),(2,[])],[]⟩)] [] Tryd.func50 (by kernel_rfl) (ca (fun _ _=>by kernel_rfl))
noncomputable def nR (p q:MV):Option MV:=
 gS p fun p1=>
 gS q fun q1=>
 bd (fR (.s p1)) fun rA=>
 gT rA fun vs=>
 gC vs fun m iZ=>
 gF m fun xs=>
 gC iZ fun m1 dw=>
 gI .i64 m1 fun x=>
 gN dw<|
 bd (fR (.s q1)) fun bR=>
 gT bR fun mu=>
 gC mu fun m2 er=>
 gF m2 fun GU=>
 gC er fun m3 jb=>
 gI .i64 m3 fun x1=>
 gN jb<|
 bd (
 b3 (!decide (x=0)) (
 some [.b true]) (
 some [.b (!decide (x1=0))])) fun pB=>
 gC pB fun m4 jN=>
 gB m4 fun x2=>
 gN jN<|
 b3 x2 (
 some (.b false)) (
 bd (Loop (fun oK=>
 gC oK fun m5 vS=>
 gI .i64 m5 fun i=>
 gN vS<|
 bd (
 fU xs fun len=>
 b3 (decide (i<(len:Int))) (
 fU GU fun oL=>
 some [.b (decide (i<(oL:Int)))]) (
 some [.b false])) fun Nn=>
 gC Nn fun m6 vT=>
 gB m6 fun x3=>
 gN vT<|
 b3 x3 (
 idx xs i fun y=>
 gS y fun x4=>
 idx GU i fun y1=>
 gS y1 fun x5=>
 b3 (!decide (x4=x5)) (
 idx xs i fun y2=>
 gS y2 fun x6=>
 idx GU i fun y3=>
 gS y3 fun x7=>
 some (.inr (1,[.b (Op.bytesLess x6 x7)]))) (
 some (.inl [.i .i64 (IntKind.wrap .i64 (i+1))]))) (
 some (.inr (2,[])))) [.i .i64 0]) fun p2=>
 b3 (Nat.beq p2.1 2) (
 gN p2.2<|
 fU xs fun qp=>
 fU GU fun y5=>
 some (.b (decide ((qp:Int)<(y5:Int))))) (
 cR (Nat.beq p2.1 1)<|
 gC p2.2 fun m7 yZ=>
 gB m7 fun x8=>
 gN yZ<|
 some (.b x8)))
noncomputable def uS:Nat→List MV→Option MV:=cB 51 (iY nR) uR
theorem tS:aA Tryd.prog cx uS:=IY tR [] [] 61 [12,17] [] [] [(8,[0,1,2,3,4,5,6,7,8]),(9,[0,1,2,3,4,5,6,7,8,9])] [(6,⟨[5,7,9],[],[],[(0,[(35,.sc (.k .b))])],[]⟩),(3,⟨[5,6,7,8],[],[],[(0,[(25,.sc (.k .b))])],[]⟩)] [] [(6,⟨[5,7],[],[(9,.sc (.k (.i .i64)))],[(1,[(4,.sc (.k .b))]),(2,[])],[]⟩)] [] Tryd.func51 (by kernel_rfl) (ca (fun _ _=>by kernel_rfl))
noncomputable def nv (p q:MV):Option MV:=
 gS p fun p1=>
 gS q fun q1=>
 bd (
 b3 (decide ((1000:Int)<(p1.length:Int))) (
 some [.b true]) (
 some [.b (decide ((1000:Int)<(q1.length:Int)))])) fun vs=>
 gC vs fun m iZ=>
 gB m fun x=>
 gN iZ<|
 b3 x (
 bd (lB) fun rA=>
 gB rA fun x1=>
 some (.b x1)) (
 bd (nP (.s p1) (.s q1)) fun bR=>
 gT bR fun mu=>
 gC mu fun m1 dw=>
 gS m1 fun x2=>
 gC dw fun m2 er=>
 gI .i64 m2 fun x3=>
 gN er<|
 bd (pJ (.s p1) (.s q1)) fun kP=>
 gT kP fun pB=>
 gC pB fun m3 jb=>
 gS m3 fun x4=>
 gC jb fun m4 jN=>
 gI .i64 m4 fun x5=>
 gN jN<|
 bd (
 bd (lB) fun tM=>
 gB tM fun x6=>
 b3 x6 (
 b3 (decide (x2=x4)) (
 b3 (decide (x3=x5)) (
 bd (ma (.s p1) (.s q1)) fun DX=>
 gB DX fun x7=>
 bd (nQ (.s p1) (.s q1)) fun Lm=>
 gB Lm fun x8=>
 b3 (decide (x7=x8)) (
 bd (jO (.s p1) (.s q1)) fun Ln=>
 gB Ln fun x9=>
 bd (nR (.s p1) (.s q1)) fun Lo=>
 gB Lo fun QD=>
 some [.b (decide (x9=QD))]) (
 some [.b false])) (
 some [.b false])) (
 some [.b false])) (
 some [.b false])) fun Nn=>
 gC Nn fun m5 oK=>
 gB m5 fun QE=>
 gN oK<|
 some (.b QE))
noncomputable def xC:Nat→List MV→Option MV:=cB 8 (iY nv) uS
theorem rk:aA Tryd.prog cx xC:=oJ tS [] 59 [(5,⟨[0,1,5,6,7,8],[],[],[(0,[(4,.sc (.k .b))])],[]⟩),(1,⟨[0,1],[],[],[(0,[(16,.sc (.k .b))])],[]⟩)] [] [] Tryd.func8 (by kernel_rfl) (ca (fun _ _=>by kernel_rfl))
end Dn.S
