import Derived.Test.YtoppfdchohkgaaaGreatDoorDnC
import Derived.MapKept
/- What Go functions come to, on plain values. Conditions: none. -/
open Go.Value renaming pointer→bo,bool→AI,slice→aec,int→aeh
open Nat renaming eq_of_beq_eq_true→sh,beq→ad7,zero_add→aei,beq_refl→aen
open Option.some renaming injEq→AS
open Go.MapKept renaming run_getObj_map→AT,run_checkKey→BY,run_findKey→IT
open Array renaming replicate→IN,getElem?_replicate→aa0,getElem?_toList→ad5,getElem?_append→ad6
open List renaming range→No,mem_cons→ab3,range'_succ→ad1,not_mem_nil→ad2,drop_of_length_le→ad3,range'→aed,map_append→aef
open Go.Result renaming andThen→OF
open Go.World renaming block_lt_of_cell?→adZ
open Bool renaming and_eq_true→ad0,not_eq_true'→aea
open Go.Instr renaming loadAt→ad4,findNow→ad9,sameNow→aeg,lookup→aeo
open Go.Region renaming wanted→ad8
open Go.Deferred renaming ofValue→aeb
open ByteArray renaming empty→aee
set_option linter.all false
namespace Dn
open Go
noncomputable section
structure ZY where
 tO:Nat
 tY:Nat
 te:Nat
 tR:Nat
 tQ:Nat
 tL:Nat
 tI:Nat
 tX:Nat
 ti:Nat
 tS:Nat
 tB:Nat
structure afT (P:Program) (c:Ctx) (g:Nat->List MV->Option MV) (k:TkF) (t:ZY):Prop where
 hT:fw P c.ti
 key: ∀f,c.key f=f
 snd: ∀f ms r,g f ms=some r->dJ P c f ms r
 gv:c.bK k.ti=false/\c.bK k.tx=false/\c.bK k.may=false
 tyO: ∃I,c.tv t.tO=some I/\I.st=true/\I.vN=[0,1,2,3,4,5,6,7]/\I.size=8
 tyR: ∃I,c.tv t.tR=some I/\I.st=true/\I.vN=[0,1]/\I.size=2
 tyY: ∃I,c.tv t.tY=some I/\I.st=false/\I.size=1
 tye: ∃I,c.tv t.te=some I/\I.st=false/\I.size=1
 tyi: ∃I,c.tv t.ti=some I/\I.st=false/\I.size=1
 tyS: ∃I,c.tv t.tS=some I/\I.st=false/\I.size=1
 tyI: ∃I,c.tv t.tI=some I/\I.st=false/\I.size=1
 afU:P.underlying t.tL=some (.slice t.tI)
def qN {P:Program}{o:Oper}{d j:Nat}{x:Operand}{e:Operand->Value}{arr:Array Value}{v:Value}(ho:ai o d (.extract x j))(hx:e x= .tuple arr)(hj:arr[j]? =some v)(w:World):(execOp e o).run P w= .ok (.value v) w:=by simp_all [execOp,ho.op,Instr.extract]
def aL.three {key:Nat->Nat} {φ:Ph}{arr:Array Value}{a b d:MV}(h:aL key φ arr.toList [a,b,d]): ∃x y z,arr[0]? =some x/\arr[1]? =some y/\arr[2]? =some z/\cG key φ x a/\cG key φ y b/\cG key φ z d:=by have ⟨x,r,e1,h1,y,r2,e2,h2,z,r3,e3,h3,e4⟩:=h;subst e2 e3 e4;refine ⟨x,y,z,?_,?_,?_,h1,h2,h3⟩<;>rw [<-ad5,e1]<;>rfl
def ah8 {key:Nat->Nat} {φ:Ph}{v:Value}{xs:List MV}(h:cG key φ v (.list xs)):il key φ [v] (.list xs)/\v.cells.toList=[v]/\v.oneCell'=true:=by obtain ⟨ad,cp,rfl,_⟩:=Hh h.2;exact ⟨h.2,rfl,rfl⟩
def Ki (r:Nat->Nat)(o:Nat->Oper):Code:= .seq (.region (r 0) #[o 0,o 1,o 2] false) (.block 0 (.loop (.seq (.region (r 1) #[o 3] false) (.seq (.cond (.tmp 9) .skip (.exit 0)) (.seq (.block 1 (.seq (.region (r 2) #[o 4,o 5,o 6] false) (.seq (.region (r 3) #[o 7,o 8,o 9,o 10,o 11] false) (.cond (.tmp 16) (.region (r 4) #[o 12,o 13,o 14,o 15,o 16,o 17,o 18,o 19,o 20,o 21,o 22,o 23,o 24,o 25,o 26,o 27,o 28,o 29,o 30,o 31] false) .skip)))) (.region (r 5) #[o 32,o 33] false))))))
structure afV (t:ZY) (fTI:Nat) (o:Nat->Oper):Prop where
 h0:ai (o 0) 6 (.move (.tmp 1))
 h1:ai (o 1) 7 (.call {callee:= .builtin .len,args:= #[.tmp 6],argTypes:= #[t.tL]})
 h2:ai (o 2) 8 (.move (.const (.int .i64 0)))
 h3:ai (o 3) 9 (.binOp .lss t.ti (.tmp 8) (.tmp 7) t.ti)
 h4:ai (o 4) 10 (.indexAddr t.tL (.tmp 6) (.tmp 8))
 h5:ai (o 5) 11 (.load t.tI (.tmp 10))
 h6:ai (o 6) 5 (.assign (.tmp 11))
 h7:ai (o 7) 12 (.move (.tmp 0))
 h8:ai (o 8) 13 (.nilCheck (.tmp 12))
 h9:ai (o 9) 14 (.fieldAddr t.tR (.tmp 13) 1)
 Fz:ai (o 10) 15 (.load t.te (.tmp 14))
 Mr:ai (o 11) 16 (.binOp .eql t.te (.tmp 15) (.const (.int .i64 0)) t.te)
 LY:ai (o 12) 18 (.move (.tmp 5))
 JW:ai (o 13) 19 (.move (.tmp 0))
 Pe:ai (o 14) 20 (.move (.tmp 0))
 LZ:ai (o 15) 21 (.move (.tmp 0))
 Ir:ai (o 16) 22 (.nilCheck (.tmp 21))
 Pf:ai (o 17) 23 (.fieldAddr t.tR (.tmp 22) 0)
 Qm:ai (o 18) 24 (.load t.tY (.tmp 23))
 Rz:ai (o 19) 25 (.call {callee:= .value (.func fTI),args:= #[.tmp 24],argTypes:= #[t.tY]})
 S3:ai (o 20) 17 (.move (.tmp 25))
 Qn:ai (o 21) 26 (.extract (.tmp 17) 0)
 S4:ai (o 22) 27 (.extract (.tmp 17) 1)
 Pg:ai (o 23) 28 (.extract (.tmp 17) 2)
 RB:ai (o 24) 29 (.nilCheck (.tmp 18))
 NK:eO (o 25) (.store t.ti (.tmp 29) (.tmp 26))
 Ua:ai (o 26) 30 (.nilCheck (.tmp 19))
 X9:ai (o 27) 31 (.fieldAddr t.tR (.tmp 30) 0)
 Wg:eO (o 28) (.store t.tY (.tmp 31) (.tmp 27))
 Wh:ai (o 29) 32 (.nilCheck (.tmp 20))
 ZT:ai (o 30) 33 (.fieldAddr t.tR (.tmp 32) 1)
 Wi:eO (o 31) (.store t.te (.tmp 33) (.tmp 28))
 S5:ai (o 32) 34 (.binOp .add t.ti (.tmp 8) (.const (.int .i64 1)) t.ti)
 Ya:ai (o 33) 8 (.move (.tmp 34))
structure aco (P:Program) (f:Nat) (t:ZY) (fTI:Nat) (fn:Func) (r:Nat->Nat) (o:Nat->Oper):Prop where
 pos:P.funcs[f]? =some fn
 name:(fn.name== "runtime.NumGoroutine")=false
 tmps:fn.ntmps=35
 res:fn.results= #[]
 body:fn.body=some (Ki r o)
 ops:afV t fTI o
def Kj (r:Nat->Nat)(o:Nat->Oper):Code:= .seq (.region (r 0) #[o 0,o 1,o 2,o 3,o 4] false) (.cond (.tmp 10) (.region (r 1) #[o 5,o 6,o 7,o 8,o 9,o 10,o 11,o 12,o 13,o 14,o 15,o 16,o 17,o 18,o 19,o 20,o 21,o 22,o 23,o 24,o 25] false) .skip)
structure afW (t:ZY) (fTX:Nat) (o:Nat->Oper):Prop where
 h0:ai (o 0) 6 (.move (.tmp 0))
 h1:ai (o 1) 7 (.nilCheck (.tmp 6))
 h2:ai (o 2) 8 (.fieldAddr t.tR (.tmp 7) 1)
 h3:ai (o 3) 9 (.load t.te (.tmp 8))
 h4:ai (o 4) 10 (.binOp .eql t.te (.tmp 9) (.const (.int .i64 0)) t.te)
 h5:ai (o 5) 12 (.move (.tmp 1))
 h6:ai (o 6) 13 (.move (.tmp 0))
 h7:ai (o 7) 14 (.move (.tmp 0))
 h8:ai (o 8) 15 (.move (.tmp 0))
 h9:ai (o 9) 16 (.nilCheck (.tmp 15))
 Fz:ai (o 10) 17 (.fieldAddr t.tR (.tmp 16) 0)
 Mr:ai (o 11) 18 (.load t.tY (.tmp 17))
 LY:ai (o 12) 19 (.move (.tmp 2))
 JW:ai (o 13) 20 (.call {callee:= .value (.func fTX),args:= #[.tmp 18,.tmp 19],argTypes:= #[t.tY,t.ti]})
 Pe:ai (o 14) 11 (.move (.tmp 20))
 LZ:ai (o 15) 21 (.extract (.tmp 11) 0)
 Ir:ai (o 16) 22 (.extract (.tmp 11) 1)
 Pf:ai (o 17) 23 (.extract (.tmp 11) 2)
 Qm:ai (o 18) 24 (.nilCheck (.tmp 12))
 Rz:eO (o 19) (.store t.tS (.tmp 24) (.tmp 21))
 S3:ai (o 20) 25 (.nilCheck (.tmp 13))
 Qn:ai (o 21) 26 (.fieldAddr t.tR (.tmp 25) 0)
 S4:eO (o 22) (.store t.tY (.tmp 26) (.tmp 22))
 Pg:ai (o 23) 27 (.nilCheck (.tmp 14))
 RB:ai (o 24) 28 (.fieldAddr t.tR (.tmp 27) 1)
 NK:eO (o 25) (.store t.te (.tmp 28) (.tmp 23))
structure acp (P:Program) (f:Nat) (t:ZY) (fTX:Nat) (fn:Func) (r:Nat->Nat) (o:Nat->Oper):Prop where
 pos:P.funcs[f]? =some fn
 name:(fn.name== "runtime.NumGoroutine")=false
 tmps:fn.ntmps=29
 res:fn.results= #[]
 body:fn.body=some (Kj r o)
 ops:afW t fTX o
section
variable {P:Program}{c:Ctx}{g:Nat->List MV->Option MV}{k:TkF}{t:ZY}{φ0 φ1 φ:Ph}{w0 W:World}{q q':RQ}{vs:List Value}{fn:Func}{r:Nat->Nat}{o:Nat->Oper}
theorem xk.lde (h:xk c φ0 w0 φ W q vs):W.cell? ⟨w0.heap.size+1,1,none⟩=some (.int .i64 q.e):=by have ⟨vb,T,h1,_⟩:=h.hr;rw [cell_of h1];rfl
def xk.an6 (h:xk c φ0 w0 φ W q vs)(H:afT P c g k t){ty:Nat}(ll: ∃I,c.tv ty=some I/\I.st=false/\I.size=1){j:Nat}(hj:j<8){v0 v1:Value}{m:MV}{xs:List MV}{e:Int}(h0:cG c.key φ v0 m)(h01:v0.cells.toList=[v0])(h02:v0.oneCell'=true)(h1:cG c.key φ v1 (.list xs)): ∃W1 W2 W3,(∀(oo:Oper) (x y:Operand) (ee:Operand->Value),eO oo (.store ty x y)->ee x= .pointer (some ⟨w0.heap.size+2,j,none⟩)->ee y=v0->(execOp ee oo).run P W= .ok .skip W1)/\ (∀(oo:Oper) (x y:Operand) (ee:Operand->Value),eO oo (.store t.tY x y)->ee x= .pointer (some ⟨w0.heap.size+1,0,none⟩)->ee y=v1->(execOp ee oo).run P W1= .ok .skip W2)/\ (∀(oo:Oper) (x y:Operand) (ee:Operand->Value),eO oo (.store t.te x y)->ee x= .pointer (some ⟨w0.heap.size+1,1,none⟩)->ee y= .int .i64 e->(execOp ee oo).run P W2= .ok .skip W3)/\ xk c φ0 w0 φ W3 ⟨xs,e,q.os.set j m⟩ (vs.set j v0):=by have ⟨I0,i1,i2,i3⟩:=ll;have ⟨IY,y1,y2,y3⟩:=H.tyY;have ⟨Ie,e1,e2,e3⟩:=H.tye;have ⟨g1,g2,g3⟩:=ah8 h1;have ⟨To,c1⟩:=h.ho;have k1:=h.asz (j:=j) h0;have ⟨vb,Tr,b1,b2⟩:=k1.hr;have k2:=k1.BM g1;have ⟨vb2,Tr2,b3,b4⟩:=k2.hr;refine ⟨_,_,_,λoo x y ee ho hx hy=>Kh ho H.hT i1 i3 hx hy h01 h02 c1 (by rw [h.n];exact hj),λoo x y ee ho hx hy=>Kh ho H.hT y1 y3 hx hy g2 g3 b1 aaS,λoo x y ee ho hx hy=>Kh ho H.hT e1 e3 hx hy rfl rfl b3 aaS,k2.RT e b4⟩
theorem afX (H:afT P c g k t){f ba:Nat}(F:aco P f t k.ti fn r o){lK:List Nat}(ho: ∀j∈lK,j<8)(hlen:lK.length<100)(hb: ∀j (h:j<lK.length),φ1 ba j=some (.pointer (some ⟨w0.heap.size+2,lK[j],none⟩)))(hle:gx φ1 φ)(hM:xk c φ0 w0 φ W q vs)(hq:FJ g k lK q=some q'): da P f #[.pointer (some ⟨w0.heap.size+1,0,none⟩),.slice (some ⟨ba,0,none⟩) lK.length lK.length] W λ_ W'=> ∃φ vs,gx φ1 φ/\xk c φ0 w0 φ W' q' vs:=by
 refine lH F.pos F.name F.body (calls_of_wp F.pos F.body ?_);rw [F.tmps];have ⟨IR,r1,r2,r3,r4⟩:=H.tyR;have ⟨IY,y1,y2,y3⟩:=H.tyY;have ⟨Ie,e1,e2,e3⟩:=H.tye;have ⟨II,p1,p2,p3⟩:=H.tyI;have ⟨hIi,SX⟩:=aM p1;have ⟨iI,zI,hiI,hsI,_⟩:=kG (H.hT _ II hIi) SX;have key: ∀a:Act,Tm a 35 (lp (lp (λ_=>undef) 0 (.pointer (some ⟨w0.heap.size+1,0,none⟩))) 1 (.slice (some ⟨ba,0,none⟩) lK.length lK.length))->(Ki r o).wp P (bodyPost P fn λe W=> ∃v,e= .returned v/\ ∃φ vs,gx φ1 φ/\xk c φ0 w0 φ W q' vs) a W:=by
  intro a al;unfold Ki;refine wp_seq (wp_region ?_);refine al.mv F.ops.h0 λa al=> ?_;refine al.st F.ops.h1 (mq F.ops.h1 H.afU rfl) λa al=> ?_;refine al.mv F.ops.h2 λa al=> ?_;refine wp_block (wp_loop (λa W=> ∃σ,Tm a 35 σ/\σ 0= .pointer (some ⟨w0.heap.size+1,0,none⟩)/\σ 6= .slice (some ⟨ba,0,none⟩) lK.length lK.length/\σ 7= .int .i64 ((lK.length:Nat):Int)/\ ∃j:Nat,j<=lK.length/\σ 8= .int .i64 (j:Int)/\ ∃φ q vs,gx φ1 φ/\xk c φ0 w0 φ W q vs/\FJ g k (lK.drop j) q=some q') (λa W=>match a.tmps.getD 8 undef with| .int _ j=>lK.length-j.toNat|_=>0) ?_ ?_)
  .exact ⟨_,al,rfl,rfl,rfl,0,Nat.zero_le _,rfl,φ,q,vs,hle,hM,by grind⟩
  .rintro a W ⟨σ,al,h0,h6,h7,j,hj,h8,φ,q,vs,hle,hM,hq⟩;have hm8:(match a.tmps.getD 8 undef with| .int _ j=>lK.length-j.toNat|_=>0)=lK.length-j:=by rw [al.get 8,h8];simp
   rw [hm8];refine wp_seq (wp_region ?_);refine al.st F.ops.h3 (JZ F.ops.h3 h8 h7) λa al=> ?_;refine wp_seq ?_;by_cases dh:j<lK.length;rotate_left
   .refine al.cond (b:=false) (by show AI (decide ((j:Int)<(lK.length:Int)))=_;grind) ?_;refine wp_exit ?_;rw [ad3 aah] at hq;simp only [FJ,AS] at hq;subst hq;exact aj8 (P:=P) (R:=λ_ W=> ∃φ vs,gx φ1 φ/\xk c φ0 w0 φ W q vs) F.res al (by grind)
   refine al.cond (b:=true) (by show AI (decide ((j:Int)<(lK.length:Int)))=_;grind) ?_;refine wp_skip ?_;rw [List.drop_eq_getElem_cons dh] at hq;simp only [FJ] at hq;have hpc:W.cell? ⟨ba,j,none⟩=some (.pointer (some ⟨w0.heap.size+2,lK[j],none⟩)):=hM.jU _ _ _ (hle _ _ _ (hb j dh));refine wp_seq (wp_block ?_);refine wp_seq (wp_region ?_);refine al.step rfl F.ops.h4 aaD (afy (size:=1) F.ops.h4 H.afU hiI (by rw [hsI,p3]) h6 h8 dh _) (λa al=> ?_);refine al.cz (v:= .pointer (some ⟨w0.heap.size+2,lK[j],none⟩)) F.ops.h5 (rz F.ops.h5 (j7 H.hT p1 p2 p3 (by grind))) λa al=> ?_;refine al.vd F.ops.h6 λa al=> ?_;refine wp_seq (wp_region ?_);refine al.mv (hv:=h0) F.ops.h7 λa al=> ?_;refine al.step rfl F.ops.h8 aaD (pL F.ops.h8 rfl _) (λa al=> ?_);refine al.step rfl F.ops.h9 aaD (jv F.ops.h9 H.hT r1 r2 (q:=1) (by rw [r3];rfl) rfl _) (λa al=> ?_);refine al.cz (v:= .int .i64 q.e) F.ops.Fz (rz F.ops.Fz (j7 H.hT e1 e2 e3 (by grind [hM.lde]))) λa al=> ?_;refine al.st F.ops.Mr (nk F.ops.Mr rfl rfl) λa al=> ?_;have last: ∀(a:Act) (W:World) (σ:Nat->Value) (φ:Ph) (q:RQ) (vs:List Value),Tm a 35 σ->σ 0= .pointer (some ⟨w0.heap.size+1,0,none⟩)->σ 6= .slice (some ⟨ba,0,none⟩) lK.length lK.length->σ 7= .int .i64 ((lK.length:Nat):Int)->σ 8= .int .i64 (j:Int)-> gx φ1 φ->xk c φ0 w0 φ W q vs->FJ g k (lK.drop (j+1)) q=some q'-> (Code.region (r 5) #[o 32,o 33] false).wp P (Exit.then (λa W=>(∃σ,Tm a 35 σ/\σ 0= .pointer (some ⟨w0.heap.size+1,0,none⟩)/\σ 6= .slice (some ⟨ba,0,none⟩) lK.length lK.length/\σ 7= .int .i64 ((lK.length:Nat):Int)/\ ∃j:Nat,j<=lK.length/\σ 8= .int .i64 (j:Int)/\ ∃φ q vs,gx φ1 φ/\xk c φ0 w0 φ W q vs/\FJ g k (lK.drop j) q=some q')/\(match a.tmps.getD 8 undef with| .int _ j=>lK.length-j.toNat|_=>0)<lK.length-j) (Exit.inBlock 0 (bodyPost P fn λe W=> ∃v,e= .returned v/\ ∃φ vs,gx φ1 φ/\xk c φ0 w0 φ W q' vs))) a W:=by
    intro a W σ φ q vs al h0 h6 h7 h8 hle hM hq;refine wp_region ?_;refine al.st F.ops.S5 (ju (q:=1) F.ops.S5 h8 rfl aah) λa al=> ?_;refine al.mv F.ops.Ya λa al=> ?_;refine ⟨⟨_,al,h0,h6,h7,j+1,aah,rfl,φ,q,vs,hle,hM,hq⟩,?_⟩;have:a.tmps.getD 8 undef= .int .i64 ((j+1:Nat):Int):=by rw [al.get 8];rfl
    rw [this];simp;omega
   by_cases he:q.e=0;rotate_left
   .refine al.cond (b:=false) (by show AI (decide (q.e=0))=_;grind) ?_;refine wp_skip ?_;rw [tkI,if_neg he] at hq;exact last a W _ φ q vs al h0 h6 h7 h8 hle hM hq
   refine al.cond (b:=true) (by show AI (decide (q.e=0))=_;grind) ?_;cases lC:tkI g k lK[j] q with
   |none=>grind
   |some q2=>
   rw [lC] at hq;rw [tkI,if_pos he] at lC;split at lC;rotate_left
   .cases lC
   rename_i n xs e Nt;simp at lC;subst lC;have ⟨vb,Tr,b1,b2⟩:=hM.hr;refine wp_region ?_;refine al.mv F.ops.LY λa al=> ?_;refine al.mv (hv:=h0) F.ops.JW λa al=> ?_;refine al.mv (hv:=h0) F.ops.Pe λa al=> ?_;refine al.mv (hv:=h0) F.ops.LZ λa al=> ?_;refine al.step rfl F.ops.Ir aaD (pL F.ops.Ir rfl _) (λa al=> ?_);refine al.step rfl F.ops.Pf aaD (jv F.ops.Pf H.hT r1 r2 (q:=0) (by rw [r3];rfl) rfl _) (λa al=> ?_);refine al.cz (v:=vb) F.ops.Qm (rz F.ops.Qm (j7 H.hT y1 y2 y3 (by rw [cell_of b1];rfl))) λa al=> ?_;have Im:da P k.ti #[vb] W λx W'=> ∃φ',Trans (λb=>W.heap.size<=b) φ W φ' W'/\ni φ' W'/\fA c (λb=>W.heap.size<=b) φ' W' (c.key k.ti) x (.cT [.i .i64 n,.list xs,.i .i64 e]):=Bh (vs:=[vb]) (by rw [H.key];exact H.gv.1) (H.snd _ _ _ Nt) rfl ⟨_,_,rfl,⟨rfl,b2⟩,rfl⟩ hM.jU;refine al.call rfl F.ops.Rz aaD (Wq F.ops.Rz rfl rfl _) Im ?_;rintro x1 W1 a ⟨φ2,t1,m1,pk⟩ al;obtain ⟨arr,rfl,pk⟩: ∃arr,x1= .tuple arr/\aL c.key φ2 arr.toList [.i .i64 n,.list xs,.i .i64 e]:=pk;have ⟨x,y,z,a1,a2,a3,q1,q2,q3⟩:=pk.three;have hx:=acn q1;have hz:=acn q3;subst hx hz;have hM1:=hM.grow t1 m1;have ⟨Wa,Wb,Wc,s1,s2,s3,hM2⟩:=hM1.an6 H H.tyi (ho _ (List.getElem_mem dh)) q1 rfl rfl q2 (e:=e);refine al.mv F.ops.S3 λa al=> ?_;refine al.st F.ops.Qn (qN F.ops.Qn rfl a1) λa al=> ?_;refine al.st F.ops.S4 (qN F.ops.S4 rfl a2) λa al=> ?_;refine al.st F.ops.Pg (qN F.ops.Pg rfl a3) λa al=> ?_;refine al.step rfl F.ops.RB aaD (pL F.ops.RB rfl _) (λa al=> ?_);refine al.Af rfl F.ops.NK (s1 _ _ _ _ F.ops.NK rfl rfl) ?_;refine al.step rfl F.ops.Ua aaD (pL F.ops.Ua rfl _) (λa al=> ?_);refine al.step rfl F.ops.X9 aaD (jv F.ops.X9 H.hT r1 r2 (q:=0) (by rw [r3];rfl) rfl _) (λa al=> ?_);refine al.Af rfl F.ops.Wg (s2 _ _ _ _ F.ops.Wg rfl rfl) ?_;refine al.step rfl F.ops.Wh aaD (pL F.ops.Wh rfl _) (λa al=> ?_);refine al.step rfl F.ops.ZT aaD (jv F.ops.ZT H.hT r1 r2 (q:=1) (by rw [r3];rfl) rfl _) (λa al=> ?_);refine al.Af rfl F.ops.Wi (s3 _ _ _ _ F.ops.Wi rfl rfl) ?_;exact last a Wc _ φ2 _ _ al h0 h6 h7 h8 (hle.trans t1.ph) hM2 hq
 grind [tm2]
theorem Wy (H:afT P c g k t){f:Nat}(F:acp P f t k.tx fn r o){j:Nat}(hj:j<8){most:Int}(hle:gx φ1 φ)(hM:xk c φ0 w0 φ W q vs)(hq:RR g k j most q=some q'): da P f #[.pointer (some ⟨w0.heap.size+1,0,none⟩),.pointer (some ⟨w0.heap.size+2,j,none⟩),.int .i64 most] W λ_ W'=> ∃φ vs,gx φ1 φ/\xk c φ0 w0 φ W' q' vs:=by
 refine lH F.pos F.name F.body (calls_of_wp F.pos F.body ?_);rw [F.tmps];have ⟨IR,r1,r2,r3,r4⟩:=H.tyR;have ⟨IY,y1,y2,y3⟩:=H.tyY;have ⟨Ie,e1,e2,e3⟩:=H.tye;have key: ∀a:Act,Tm a 29 (lp (lp (lp (λ_=>undef) 0 (.pointer (some ⟨w0.heap.size+1,0,none⟩))) 1 (.pointer (some ⟨w0.heap.size+2,j,none⟩))) 2 (.int .i64 most))->(Kj r o).wp P (bodyPost P fn λe W=> ∃v,e= .returned v/\ ∃φ vs,gx φ1 φ/\xk c φ0 w0 φ W q' vs) a W:=by
  intro a al;unfold Kj;refine wp_seq (wp_region ?_);refine al.mv F.ops.h0 λa al=> ?_;refine al.step rfl F.ops.h1 aaD (pL F.ops.h1 rfl _) (λa al=> ?_);refine al.step rfl F.ops.h2 aaD (jv F.ops.h2 H.hT r1 r2 (q:=1) (by rw [r3];rfl) rfl _) (λa al=> ?_);refine al.cz (v:= .int .i64 q.e) F.ops.h3 (rz F.ops.h3 (j7 H.hT e1 e2 e3 (by grind [hM.lde]))) λa al=> ?_;refine al.st F.ops.h4 (nk F.ops.h4 rfl rfl) λa al=> ?_;by_cases he:q.e=0;rotate_left
  .refine al.cond (b:=false) (by show AI (decide (q.e=0))=_;grind) ?_;refine wp_skip ?_;rw [RR,if_neg he] at hq;exact aj8 F.res al (by grind)
  refine al.cond (b:=true) (by show AI (decide (q.e=0))=_;grind) ?_;simp only [if_true];rw [RR,if_pos he] at hq;split at hq;rotate_left
  .cases hq
  rename_i l xs e Nt;simp only [AS] at hq;subst hq;obtain ⟨vb,Tr,b1,b2⟩:=hM.hr;refine wp_region ?_;refine al.mv F.ops.h5 λa al=> ?_;refine al.mv F.ops.h6 λa al=> ?_;refine al.mv F.ops.h7 λa al=> ?_;refine al.mv F.ops.h8 λa al=> ?_;refine al.step rfl F.ops.h9 aaD (pL F.ops.h9 rfl _) (λa al=> ?_);refine al.step rfl F.ops.Fz aaD (jv F.ops.Fz H.hT r1 r2 (q:=0) (by rw [r3];rfl) rfl _) (λa al=> ?_);refine al.cz (v:=vb) F.ops.Mr (rz F.ops.Mr (j7 H.hT y1 y2 y3 (by rw [cell_of b1];rfl))) λa al=> ?_;refine al.mv F.ops.LY λa al=> ?_;have Im:da P k.tx #[vb,.int .i64 most] W λx W'=> ∃φ',Trans (λb=>W.heap.size<=b) φ W φ' W'/\ni φ' W'/\fA c (λb=>W.heap.size<=b) φ' W' (c.key k.tx) x (.cT [.s l,.list xs,.i .i64 e]):=Bh (vs:=[vb,.int .i64 most]) (by rw [H.key];exact H.gv.2.1) (H.snd _ _ _ Nt) rfl ⟨_,_,rfl,⟨rfl,b2⟩,_,_,rfl,Ah,rfl⟩ hM.jU;refine al.call rfl F.ops.JW aaD (Wr F.ops.JW rfl rfl rfl _) Im ?_;rintro x1 W1 a ⟨φ2,t1,m1,pk⟩ al;obtain ⟨arr,rfl,pk⟩: ∃arr,x1= .tuple arr/\aL c.key φ2 arr.toList [.s l,.list xs,.i .i64 e]:=pk;obtain ⟨x,y,z,a1,a2,a3,q1,q2,q3⟩:=pk.three;have hz:=acn q3;subst hz;have hx:x.cells.toList=[x]/\x.oneCell'=true:=by obtain ⟨_,hx⟩:=q1;generalize hv:[x]=lx at hx;cases hx;simp at hv;subst hv;exact ⟨rfl,rfl⟩
  have hM1:=hM.grow t1 m1;obtain ⟨Wa,Wb,Wc,s1,s2,s3,hM2⟩:=hM1.an6 H H.tyS hj q1 hx.1 hx.2 q2 (e:=e);refine al.mv F.ops.Pe λa al=> ?_;refine al.st F.ops.LZ (qN F.ops.LZ rfl a1) λa al=> ?_;refine al.st F.ops.Ir (qN F.ops.Ir rfl a2) λa al=> ?_;refine al.st F.ops.Pf (qN F.ops.Pf rfl a3) λa al=> ?_;refine al.step rfl F.ops.Qm aaD (pL F.ops.Qm rfl _) (λa al=> ?_);refine al.Af rfl F.ops.Rz (s1 _ _ _ _ F.ops.Rz rfl rfl) ?_;refine al.step rfl F.ops.S3 aaD (pL F.ops.S3 rfl _) (λa al=> ?_);refine al.step rfl F.ops.Qn aaD (jv F.ops.Qn H.hT r1 r2 (q:=0) (by rw [r3];rfl) rfl _) (λa al=> ?_);refine al.Af rfl F.ops.S4 (s2 _ _ _ _ F.ops.S4 rfl rfl) ?_;refine al.step rfl F.ops.Pg aaD (pL F.ops.Pg rfl _) (λa al=> ?_);refine al.step rfl F.ops.RB aaD (jv F.ops.RB H.hT r1 r2 (q:=1) (by rw [r3];rfl) rfl _) (λa al=> ?_);refine al.Af rfl F.ops.NK (s3 _ _ _ _ F.ops.NK rfl rfl) ?_;exact aj8 F.res al (λ_=>⟨φ2,_,hle.trans t1.ph,hM2⟩)
 grind [tm3]
end
def Kk (r:Nat->Nat)(o:Nat->Oper):Code:= .seq (.region (r 0) #[o 0,o 1,o 2] false) (.seq (.region (r 1) #[o 3,o 4,o 5,o 6] false) (.seq (.region (r 2) #[o 7,o 8,o 9] false) (.seq (.region (r 3) #[o 10,o 11,o 12,o 13,o 14,o 15,o 16,o 17,o 18] false) (.seq (.region (r 4) #[o 19,o 20,o 21] false) (.seq (.region (r 5) #[o 22,o 23,o 24] false) (.seq (.block 0 (.seq (.region (r 6) #[o 25,o 26,o 27,o 28,o 29,o 30] false) (.cond (.tmp 26) (.seq (.region (r 7) #[o 31,o 32,o 33,o 34,o 35,o 36,o 37,o 38] true) .ret) (.seq (.region (r 8) #[o 39,o 40,o 41,o 42] false) (.cond (.tmp 37) (.seq (.region (r 9) #[o 43,o 44,o 45,o 46] false) .ret) .skip))))) (.seq (.region (r 10) #[o 47,o 48,o 49,o 50,o 51,o 52,o 53,o 54] true) .ret)))))))
structure afY (t:ZY) (fI fX fM:Nat) (o:Nat->Oper):Prop where
 h0:ai (o 0) 2 (.alloc t.tO)
 h1:ai (o 1) 3 (.assign (.const (.slice none 0 0)))
 h2:ai (o 2) 4 (.assign (.const (.int .i64 0)))
 h3:ai (o 3) 7 (.move (.tmp 0))
 h4:ai (o 4) 8 (.build t.tR #[(0,.tmp 7)])
 h5:ai (o 5) 9 (.box t.tR (.tmp 8))
 h6:ai (o 6) 5 (.assign (.tmp 9))
 h7:ai (o 7) 10 (.build t.tO #[])
 h8:ai (o 8) 6 (.alloc t.tO)
 h9:eO (o 9) (.store t.tO (.tmp 6) (.tmp 10))
 Fz:ai (o 10) 11 (.move (.tmp 5))
 Mr:ai (o 11) 12 (.fieldAddr t.tO (.tmp 6) 0)
 LY:ai (o 12) 13 (.fieldAddr t.tO (.tmp 6) 1)
 JW:ai (o 13) 14 (.fieldAddr t.tO (.tmp 6) 2)
 Pe:ai (o 14) 15 (.fieldAddr t.tO (.tmp 6) 5)
 LZ:ai (o 15) 16 (.fieldAddr t.tO (.tmp 6) 6)
 Ir:ai (o 16) 17 (.fieldAddr t.tO (.tmp 6) 7)
 Pf:ai (o 17) 18 (.buildSlice t.tL 6 #[(0,.tmp 12),(1,.tmp 13),(2,.tmp 14),(3,.tmp 15),(4,.tmp 16),(5,.tmp 17)])
 Qm:ai (o 18) 19 (.call {callee:= .value (.func fI),args:= #[.tmp 11,.tmp 18],argTypes:= #[t.tQ,t.tL]})
 Rz:ai (o 19) 20 (.move (.tmp 5))
 S3:ai (o 20) 21 (.fieldAddr t.tO (.tmp 6) 3)
 Qn:ai (o 21) 22 (.call {callee:= .value (.func fX),args:= #[.tmp 20,.tmp 21,.const (.int .i64 100)],argTypes:= #[t.tQ,t.tX,t.ti]})
 S4:ai (o 22) 23 (.move (.tmp 5))
 Pg:ai (o 23) 24 (.fieldAddr t.tO (.tmp 6) 4)
 RB:ai (o 24) 25 (.call {callee:= .value (.func fX),args:= #[.tmp 23,.tmp 24,.const (.int .i64 1000)],argTypes:= #[t.tQ,t.tX,t.ti]})
 NK:ai (o 25) 27 (.move (.tmp 5))
 Ua:ai (o 26) 28 (.nilCheck (.tmp 27))
 X9:ai (o 27) 29 (.fieldAddr t.tR (.tmp 28) 1)
 Wg:ai (o 28) 30 (.load t.te (.tmp 29))
 Wh:ai (o 29) 31 (.binOp .neq t.te (.tmp 30) (.const (.int .i64 0)) t.te)
 ZT:ai (o 30) 26 (.assign (.tmp 31))
 Wi:ai (o 31) 32 (.build t.tO #[])
 S5:ai (o 32) 33 (.move (.tmp 5))
 Ya:ai (o 33) 34 (.nilCheck (.tmp 33))
 Yb:ai (o 34) 35 (.fieldAddr t.tR (.tmp 34) 1)
 Wj:ai (o 35) 36 (.load t.te (.tmp 35))
 Yc:eO (o 36) (.store t.tO (.tmp 2) (.tmp 32))
 Ub:ai (o 37) 3 (.assign (.const (.slice none 0 0)))
 Wk:ai (o 38) 4 (.assign (.tmp 36))
 Yd:ai (o 39) 38 (.load t.tO (.tmp 6))
 ZU:ai (o 40) 39 (.call {callee:= .value (.func fM),args:= #[.tmp 38],argTypes:= #[t.tO]})
 Uc:ai (o 41) 40 (.unOp .not t.tB (.tmp 39))
 h42:ai (o 42) 37 (.assign (.tmp 40))
 Ye:ai (o 43) 41 (.build t.tO #[])
 ZV:eO (o 44) (.store t.tO (.tmp 2) (.tmp 41))
 h45:ai (o 45) 3 (.assign (.const (.slice none 0 0)))
 h46:ai (o 46) 4 (.assign (.const (.int .i64 3)))
 Wl:ai (o 47) 42 (.load t.tO (.tmp 6))
 VM:ai (o 48) 43 (.move (.tmp 5))
 Ud:ai (o 49) 44 (.nilCheck (.tmp 43))
 S6:ai (o 50) 45 (.fieldAddr t.tR (.tmp 44) 0)
 h51:ai (o 51) 46 (.load t.tY (.tmp 45))
 h52:eO (o 52) (.store t.tO (.tmp 2) (.tmp 42))
 h53:ai (o 53) 3 (.assign (.tmp 46))
 h54:ai (o 54) 4 (.assign (.const (.int .i64 0)))
def Yo:List Value:=[.int .i64 0,.int .i64 0,.int .i64 0,.string aee,.string aee,.int .i64 0,.int .i64 0,.int .i64 0]
structure Ai (P:Program) (c:Ctx) (g:Nat->List MV->Option MV) (k:TkF) (t:ZY) (f fI fX:Nat) (fn:Func) (r:Nat->Nat) (o:Nat->Oper):Prop extends afT P c g k t where
 pos:P.funcs[f]? =some fn
 name:(fn.name== "runtime.NumGoroutine")=false
 tmps:fn.ntmps=47
 res:fn.results= #[.cell 2 t.tO,.tmp 3,.tmp 4]
 body:fn.body=some (Kk r o)
 ops:afY t fI fX k.may o
 ints: ∃BT r1 o1,aco P fI t k.ti BT r1 o1
 text: ∃Iv r2 o2,acp P fX t k.tx Iv r2 o2
 mix:P.follows .mixedOrders=true
 d7:sK c #[o 31,o 32,o 33,o 34,o 35,o 36,o 37,o 38] [0,1,2,3,4,5,6,7]=true
 d10:sK c #[o 47,o 48,o 49,o 50,o 51,o 52,o 53,o 54] [0,1,2,3,4,5,6,7]=true
 s35:still c (o 35)=true
 s47:still c (o 47)=true
 s51:still c (o 51)=true
 m38:eY c (o 38)=false
 m53:eY c (o 53)=false
 gvF:c.bK f=false
 tyL: ∃I,c.tv t.tL=some I/\I.elem=t.tI
 blR: ∀ad n cp,P.built t.tR [(0,.slice ad n cp)]=some #[.slice ad n cp,.int .i64 0]
 blO:P.built t.tO []=some Yo.toArray
def DS.acq {P:Program}{c:Ctx}{ops:Array Oper}{N:Act->World->Prop} {φ:Ph}{o:Oper}{a:Act}{w:World}{n:Nat} {σ:Nat->Value}{x d:Nat}{rest pre:List Nat}{listed:Array Bool}{op:Op}{v:Value}(h:DS c ops pre (x::rest) listed)(hx:ops[x]? =some o)(ho:ai o d op)(hd:d<n)(ZS:fK o=true)(hmv:eY c o=false)(hld:jq c o=true)(eh:still c o=true)(al:Tm a n σ)(hi:ni φ w)(bF: ∀w',ni φ w'->(execOp (ev σ) o).run P w'= .ok (.value v) w')(Cg: ∀a',Tm a' n (lp σ d v)->DS c ops (x::pre) rest (listed.setIfInBounds x true)->zi P c ops N φ rest.length (listed.setIfInBounds x true) a' w):zi P c ops N φ (rest.length+1) listed a w:=by
 have ⟨JN,JO,CQ,uy,d4⟩:=h.facts hx;simp only [ZS,hmv,Bool.not_false,Bool.and_self,cond_true] at d4;obtain ⟨D,D1,D2,D3,D4⟩:=vT rest [x] d4 (λy hy dt=>absurd (by simpa using hy) dt);have hL:=h.lst;refine xG (v:=v) D3 hx h.sel rest.length listed a w ?_ ?_ CQ ?_ hi ?_
 .intro j oj hoj hjD hjx T0;have Rt:j<ops.size:=(by grind)
  have hjr:j∈rest:=by
   rcases h.all j Rt with h1|h1
   .exact absurd h1 ((hL.ot Rt).1 T0)
   .grind
  grind
 .intro d hd;have hdn:d∉pre:=by
   rcases D2 d hd with h1|h1
   .grind
   .grind [lG,uy.dr]
  by_cases Rl:d<ops.size
  .cases hg:listed.getD d false with
   |false=>rfl
   |true=>exact absurd ((hL.done Rl).1 hg) hdn
  .have hl: ¬d<listed.size:=by rw [hL.size];exact Rl
   simp [hl]
 .refine .inl ⟨by simp [ad8,ho.guard],λw' hg=> ?_⟩;grind [al.eval]
 .rw [ho.dst];exact Cg _ (al.put hd v) uy
section
variable {P:Program}{c:Ctx}{g:Nat->List MV->Option MV}{k:TkF}{t:ZY}{f fI fX:Nat}{fn:Func}{r:Nat->Nat}{o:Nat->Oper}{φ0 φ1 φ:Ph}{w0 W W':World}{q q':RQ}{vs:List Value}{a:Act}{σ:Nat->Value}{φt:Ph}{res:MV}
def Ey {o:Oper}{d t:Nat}{parts:Array (Nat×Operand)}{e:Operand->Value}{out:Array Value}(ho:ai o d (.build t parts))(hb:P.built t (parts.toList.map λp=>(p.1,e p.2))=some out)(w:World):(execOp e o).run P w= .ok (.value (.agg out)) w:=by simp_all [run_build,execOp,ho.op]
def afZ {o:Oper}{d:Nat} {t t':TypeId}{x y:Operand}{e:Operand->Value}{p q:Int}(ho:ai o d (.binOp .neq t x y t'))(hx:e x= .int .i64 p)(hy:e y= .int .i64 q)(w:World):(execOp e o).run P w= .ok (.value (.bool (!decide (p=q)))) w:=wF ho hx hy (λw=>by rfl) w
def Ez {o:Oper}{t:TypeId}{I:TI}{x y:Operand}{e:Operand->Value}{g:Nat}{arr:Array Value}{T:TypeId}{w:World}(ho:eO o (.store t x y))(hT:fw P c.ti)(hI:c.tv t=some I)(hs:I.size=vs.length)(hx:e x= .pointer (some ⟨g,0,none⟩))(hy:e y= .agg vs.toArray)(h1: ∀u∈vs,u.oneCell'=true)(bW:w.heap[g]? =some (.cells arr T (0,0)))(hn:arr.size=vs.length):(execOp e o).run P w= .ok .skip (w.setRow g vs.toArray):=by
 have ⟨lC,HF⟩:=aM hI;have hc:(Value.agg vs.toArray).cells.toList=vs:=by simp [Value.cells]
 rw [Iu (v:= .agg vs.toArray) ho (hT _ _ lC) HF hx hy (by rw [hc,hs]) (by grind) bW (by grind),hc,hs];have:arr.toList.drop (0+vs.length)=[]:=by rw [aei,ad3];rw [Array.length_toList,hn];exact Nat.le_refl _
 grind
def aL.Xz {key:Nat->Nat} {φ:Ph}: ∀{ms:List MV} {vs:List Value},(∀m∈ms,m.one=true)->aL key φ vs ms->fq key φ vs ms:=by
 intro ms;induction ms with
 |nil=>intro vs _ h;subst h;exact .nil
 |cons m ms ih=>intro vs h1 h;obtain ⟨v,r,rfl,h2,h3⟩:=h;refine .cons [v] m r ms ?_ (by grind);have:=h1 m aaS;cases m<;>first|exact h2.2|grind [MV.one]
def aL.zW {key:Nat->Nat} {φ:Ph}{ms:List MV}{vs:List Value}(h:fq key φ vs ms): ∀u∈vs,u.oneCell'=true:=h.cells
def Wz {os:List MV}{j:Nat}{m:MV}(h: ∀m∈os,m.one=true)(hm:m.one=true): ∀x∈os.set j m,x.one=true:=by grind
theorem af0 {j:Nat}(h: ∀m∈q.os,m.one=true)(hq:tkI g k j q=some q'): ∀m∈q'.os,m.one=true:=by
 unfold tkI at hq;split at hq
 .split at hq
  .simp at hq;subst hq;exact Wz h rfl
  .cases hq
 grind
def WA {j:Nat}{most:Int}(h: ∀m∈q.os,m.one=true)(hq:RR g k j most q=some q'): ∀m∈q'.os,m.one=true:=by
 unfold RR at hq;split at hq
 .split at hq
  .simp at hq;subst hq;exact Wz h rfl
  .cases hq
 grind
def acr {l:List Nat}: ∀{q:RQ},(∀m∈q.os,m.one=true)->FJ g k l q=some q'-> ∀m∈q'.os,m.one=true:=by
 induction l with
 |nil=>grind [FJ,AS]
 |cons j l ih=>grind [FJ,tkI,af0]
def Pz {key:Nat->Nat} {φ:Ph}:aL key φ Yo ZX:=⟨_,_,rfl,Ah,_,_,rfl,Ah,_,_,rfl,Ah,_,_,rfl,⟨rfl,.s _⟩,_,_,rfl,⟨rfl,.s _⟩,_,_,rfl,Ah,_,_,rfl,Ah,_,_,rfl,Ah,rfl⟩
def PA: ∀m∈ZX,m.one=true:=by intro m hm;simp [ZX] at hm;rcases hm with rfl|rfl|rfl|rfl|rfl|rfl|rfl|rfl<;>rfl
def Kl (H:Ai P c g k t f fI fX fn r o)(al:Tm a 47 σ)(hb: ∃T,W.heap[w0.heap.size]? =some (.cells vs.toArray T (0,0)))(hn:vs.length=8)(h2:σ 2= .pointer (some ⟨w0.heap.size,0,none⟩)){R:Value->World->Prop}(h:R (.tuple #[.agg vs.toArray,σ 3,σ 4]) W): bodyPost P fn (λe W=> ∃v,e= .returned v/\R v W) .ret a W:=by
 have ⟨Io,p1,p2,p3,p4⟩:=H.tyO;have ⟨T,hb⟩:=hb;refine ⟨al.defers,.tuple #[.agg vs.toArray,σ 3,σ 4],?_,_,rfl,h⟩;have au8:(loadVar t.tO ⟨w0.heap.size,0,none⟩).run P W= .ok (.agg vs.toArray) W:=by have:=CT (P:=P) (w:=W) (g:=w0.heap.size) (off:=0) H.hT p1 p2 (by rw [hn,p4]) (wOf hb aaS);simpa [ad4,Instr.sureAddr] using this
 have SW:a.tmps[2]?.getD undef= .pointer (some ⟨w0.heap.size,0,none⟩):=by have:=(al.get 2).trans h2;simpa using this
 have ZH:a.tmps[3]?.getD undef=σ 3:=by have:=al.get 3;simpa using this
 have h4':a.tmps[4]?.getD undef=σ 4:=by have:=al.get 4;simpa using this
 simp_all [results,H.res,asAddr]
def Km (c:Ctx) (φ0:Ph)(w0:World)(res:MV)(v:Value)(W:World):Prop:= ∃φ',Trans (λb=>w0.heap.size<=b) φ0 w0 φ' W/\ni φ' W/\ ∃ms arr,res= .cT ms/\v= .tuple arr/\aL c.key φ' arr.toList ms
def xk.sls (h:xk c φ0 w0 φ W q vs): ∃φt vb,gx φ φt/\ni φt W/\(∀b o,b≠w0.heap.size+1->b≠w0.heap.size+2->φt b o=φ b o)/\φt (w0.heap.size+1) 0=some vb/\φt (w0.heap.size+1) 1=some (.int .i64 q.e)/\il c.key φt [vb] (.list q.xs)/\ ∀j,φt (w0.heap.size+2) j=vs[j]? :=by
 have ⟨vb,Tr,b1,b2⟩:=h.hr;have ⟨To,c1⟩:=h.ho;have f1: ∀o,φ (w0.heap.size+1) o=none:=λo=>h.f 1 o aaD;have l1:=J3 (vs:=[vb,.int .i64 q.e]) f1;have f2: ∀o,NP φ (w0.heap.size+1) [vb,.int .i64 q.e] (w0.heap.size+2) o=none:=λo=>by unfold NP;rw [if_neg aah];exact h.f 2 o aaD
 have l2:=J3 (vs:=vs) f2;refine ⟨_,vb,l1.trans l2,Eo (Eo h.jU b1) c1,λb o n1 n2=>by simp_all [NP,if_neg],?_,?_,b2.mono (l1.trans l2),λj=>by simp [NP]⟩;all_goals grind [NP]
def xk.close (h:xk c φ0 w0 φ W q vs)(hle:gx φ φt)(hi:ni φt W) (hφ: ∀b o,b≠w0.heap.size+1->b≠w0.heap.size+2->φt b o=φ b o)(hs:W'.heap.size=W.heap.size)(hr:Rest W W')(ho: ∀b,b≠w0.heap.size->W'.heap[b]? =W.heap[b]?):Trans (λb=>w0.heap.size<=b) φ0 w0 φt W'/\ni φt W':=by
 refine ⟨⟨h.tr.ph.trans hle,λb hb hl=> ?_,λb o hb=> ?_,by grind [h.tr.size],h.tr.rest.trans hr⟩,λb o u hu=>sC (hi b o u hu) λhl=>ho b λe=> ?_⟩
 .rw [ho b aah];exact h.tr.heap b hb hl
 .rw [hφ b o aah aah];exact h.tr.free b o hb
 .rw [hφ b o aah aah,e,show w0.heap.size=w0.heap.size+0 from rfl,h.f 0 o aaD] at hu;cases hu
def Tm.ah9 {ops:Array Oper}{o:Oper}{x n:Nat}{op:Op} {w w':World}{Q:Exit->Act->World->Prop}{K:Act->World->Prop}(al:Tm a n σ)(hi:ops[x]? =some o)(ho:eO o op)(bF:(execOp (ev σ) o).run P w= .ok .skip w')(h:K a w'):wpOp P ops Q x K a w:=by unfold wpOp;simp only [hi,ad8,ho.guard,if_true];left;unfold Oper.wp;rw [al.eval,bF];simp only [Oper.upon];rw [ho.dst];exact h
def WB {p oi:Oper}{t:TypeId}{x y:Operand}(h:eO p (.store t x y)):(Oz c p||uO oi p)=false:=by grind [Oz,fK,zd,h.op,uO,aao]
def lL {p:Oper}{d:Nat}{op:Op}(h:ai p d op)(hn: ∀t x,op≠ .load t x):still c p=false:=by unfold still;rw [h.op];grind
def FK: ∀u∈Yo,u.oneCell'=true:=by intro m hm;simp [Yo] at hm;rcases hm with rfl|rfl|rfl|rfl|rfl|rfl|rfl|rfl<;>rfl
def WC {key:Nat->Nat} {φ:Ph}:il key φ [aec none 0 0] (.list []):= .list none 0 [] 0 0 0 (λ_=>[]) aaS aaS aaS aaS aaS
def Ul {φ':Ph}{ms:List MV}{xs:List MV}{e:Int}{us:List Value}{v:Value}(t1:Trans (λb=>w0.heap.size<=b) φ0 w0 φ' W)(t2:ni φ' W)(h1:fq c.key φ' us ms)(h2:il c.key φ' [v] (.list xs)):Km c φ0 w0 (.cT [.agg ms,.list xs,.i .i64 e]) (.tuple #[.agg us.toArray,v,.int .i64 e]) W:=⟨φ',t1,t2,_,_,rfl,rfl,_,_,rfl,RP h1,_,_,rfl,⟨rfl,h2⟩,_,_,rfl,Ah,rfl⟩
theorem Yp (H:Ai P c g k t f fI fX fn r o)(hM:xk c φ0 w0 φ W q vs)(al:Tm a 47 σ)(h2:σ 2= .pointer (some ⟨w0.heap.size,0,none⟩))(h5:σ 5= .pointer (some ⟨w0.heap.size+1,0,none⟩)){Q:Exit->Act->World->Prop}(hQ: ∀a W,bodyPost P fn (λe W=> ∃v,e= .returned v/\Km c φ0 w0 (.cT [.agg ZX,.list [],.i .i64 q.e]) v W) .ret a W->Q .ret a W): (Code.seq (.region (r 7) #[o 31,o 32,o 33,o 34,o 35,o 36,o 37,o 38] true) .ret).wp P Q a W:=by
 have ⟨φt,vb,l1,l2,l3,l4,l5,l6,l7⟩:=hM.sls;have ⟨Io,p1,p2,p3,p4⟩:=H.tyO;have ⟨IR,r1,r2,r3,r4⟩:=H.tyR;have ⟨Ie,e1,e2,e3⟩:=H.tye;have ⟨zs,T2,b1,b2⟩:=hM.h2;refine wp_seq (RI (c:=c) (φ:=φt) (ord:=[0,1,2,3,4,5,6,7]) H.mix H.d7 λlisted uy=> ?_);have ⟨W0,hW0⟩: ∃W0,W0=({W with drawn:=W.drawn+1}:World):=⟨_,rfl⟩
 rw [<-hW0];have hh0:W0.heap=W.heap:=by rw [hW0]
 have hr0:Rest W W0:=by rw [hW0];exact ⟨rfl,rfl,rfl⟩
 have Yq:ni φt W0:=by rw [hW0];exact l2
 refine uy.read (v:= .agg Yo.toArray) rfl H.ops.Wi aaD (by simp [fK,H.ops.Wi.op]) (by simp [eY,H.ops.Wi.op]) (lL H.ops.Wi aaS) (by simp [zN,H.ops.Wi.op]) al Yq (λw' _=>Ey H.ops.Wi H.blO w') (λa al uy=> ?_);refine uy.read (v:= .pointer (some ⟨w0.heap.size+1,0,none⟩)) rfl H.ops.S5 aaD (by simp [fK,H.ops.S5.op]) (by simp [eY,H.ops.S5.op]) (lL H.ops.S5 aaS) (by simp [zN,H.ops.S5.op]) al Yq (λw' _=>(j6 H.ops.S5 w').trans (by show Result.ok (Next.value (σ 5)) w'=_;rw [h5])) (λa al uy=> ?_);refine uy.read (v:= .pointer (some ⟨w0.heap.size+1,0,none⟩)) rfl H.ops.Ya aaD (by simp [fK,H.ops.Ya.op]) (by simp [eY,H.ops.Ya.op]) (lL H.ops.Ya aaS) (by simp [zN,H.ops.Ya.op]) al Yq (λw' _=>pL H.ops.Ya rfl w') (λa al uy=> ?_);refine uy.read (v:= .pointer (some ⟨w0.heap.size+1,0+1,none⟩)) rfl H.ops.Yb aaD (by simp [fK,H.ops.Yb.op]) (by simp [eY,H.ops.Yb.op]) (lL H.ops.Yb aaS) (by simp [zN,H.ops.Yb.op]) al Yq (λw' _=>jv H.ops.Yb H.hT r1 r2 (by rw [r3];rfl) rfl w') (λa al uy=> ?_);refine uy.acq (v:= .int .i64 q.e) rfl H.ops.Wj aaD (by simp [fK,H.ops.Wj.op]) (by simp [eY,H.ops.Wj.op]) (by simp [jq,mR,H.ops.Wj.op]) H.s35 al Yq (λw' hw=>rz H.ops.Wj (j7 H.hT e1 e2 e3 (hw _ _ _ l5))) (λa al uy=> ?_);refine uy.anP (o:=o 36) rfl (λy hy p hp=> ?_) (by simp [fK,H.ops.Yc.op]) (al.ah9 rfl H.ops.Yc (Ez H.ops.Yc H.hT p1 (by rw [p4];rfl) (by exact h2) rfl FK (by rw [hh0];exact b1) (by rw [b2];rfl)) ?_)
 .have hy:y=6\/y=7:=by simpa using hy
  rcases hy with rfl|rfl<;>cases hp
  .grind [Iw,H.ops.Ub]
  .exact Iw H.ops.Wk aaS
 have ⟨W1,RU⟩: ∃W1,W1=W0.setRow w0.heap.size Yo.toArray:=⟨_,rfl⟩
 rw [<-RU];have ru:W1.heap[w0.heap.size]? =some (.cells Yo.toArray T2 (0,0)):=by rw [RU];exact (by grind [iy])
 have ⟨t1,t2⟩:=hM.close (W':=W1) l1 l2 l3 (by simp_all) (hr0.trans (by rw [RU];exact .setRow _ _ _)) (by grind [setRow_other]);refine ⟨⟨λoi hg=> ?_,t2⟩,?_⟩
 .have XB:pK c oi #[o 31,o 32,o 33,o 34,o 35,o 36,o 37,o 38] 5=(Oz c (o 36)||uO oi (o 36)):=rfl;rw [XB,WB H.ops.Yc] at hg;cases hg
 have ⟨_,_,_,akk,_⟩:=uy.facts (o:=o 36) rfl;refine akk.read (v:= .slice none 0 0) rfl H.ops.Ub aaD (by simp [fK,H.ops.Ub.op]) (by simp [eY,H.ops.Ub.op]) (lL H.ops.Ub aaS) (by simp [zN,H.ops.Ub.op]) al t2 (λw' _=>Bg H.ops.Ub w') (λa al uy=> ?_);refine uy.read (v:= .int .i64 q.e) rfl H.ops.Wk aaD (by simp [fK,H.ops.Wk.op]) H.m38 (lL H.ops.Wk aaS) (by simp [zN,H.ops.Wk.op]) al t2 (λw' _=>Bg H.ops.Wk w') (λa al uy=> ?_);refine uy.done ?_;refine wp_ret (hQ _ _ ?_);exact Kl H al ⟨T2,ru⟩ rfl (by exact h2) (Ul t1 t2 (Pz.Xz PA) WC)
theorem acs (H:Ai P c g k t f fI fX fn r o)(hM:xk c φ0 w0 φ W q vs)(h1: ∀m∈q.os,m.one=true)(al:Tm a 47 σ)(h2:σ 2= .pointer (some ⟨w0.heap.size,0,none⟩))(h5:σ 5= .pointer (some ⟨w0.heap.size+1,0,none⟩))(h6:σ 6= .pointer (some ⟨w0.heap.size+2,0,none⟩)){Q:Exit->Act->World->Prop}(hQ: ∀a W,bodyPost P fn (λe W=> ∃v,e= .returned v/\Km c φ0 w0 (.cT [.agg q.os,.list q.xs,.i .i64 0]) v W) .ret a W->Q .ret a W): (Code.seq (.region (r 10) #[o 47,o 48,o 49,o 50,o 51,o 52,o 53,o 54] true) .ret).wp P Q a W:=by
 have ⟨φt,vb,l1,l2,l3,l4,l5,l6,l7⟩:=hM.sls;have ⟨Io,p1,p2,p3,p4⟩:=H.tyO;have ⟨IR,r1,r2,r3,r4⟩:=H.tyR;have ⟨IY,y1,y2,y3⟩:=H.tyY;have ⟨zs,T2,b1,b2⟩:=hM.h2;have hos:=(hM.os.mono l1).Xz h1;have hn:=hM.n;refine wp_seq (RI (c:=c) (φ:=φt) (ord:=[0,1,2,3,4,5,6,7]) H.mix H.d10 λlisted uy=> ?_);have ⟨W0,hW0⟩: ∃W0,W0=({W with drawn:=W.drawn+1}:World):=⟨_,rfl⟩
 rw [<-hW0];have hh0:W0.heap=W.heap:=by rw [hW0]
 have hr0:Rest W W0:=by rw [hW0];exact ⟨rfl,rfl,rfl⟩
 have Yq:ni φt W0:=by rw [hW0];exact l2
 refine uy.acq (v:= .agg vs.toArray) rfl H.ops.Wl aaD (by simp [fK,H.ops.Wl.op]) (by simp [eY,H.ops.Wl.op]) (by simp [jq,mR,H.ops.Wl.op]) H.s47 al Yq (λw' hw=>rz H.ops.Wl (by show (ad4 t.tO (σ 6)).run P w'=_;rw [h6];exact CT H.hT p1 p2 (by rw [hn,p4]) (λj v hj=>by exact hw _ _ _ (by grind)))) (λa al uy=> ?_);refine uy.read (v:= .pointer (some ⟨w0.heap.size+1,0,none⟩)) rfl H.ops.VM aaD (by simp [fK,H.ops.VM.op]) (by simp [eY,H.ops.VM.op]) (lL H.ops.VM aaS) (by simp [zN,H.ops.VM.op]) al Yq (λw' _=>(j6 H.ops.VM w').trans (by show Result.ok (Next.value (σ 5)) w'=_;rw [h5])) (λa al uy=> ?_);refine uy.read (v:= .pointer (some ⟨w0.heap.size+1,0,none⟩)) rfl H.ops.Ud aaD (by simp [fK,H.ops.Ud.op]) (by simp [eY,H.ops.Ud.op]) (lL H.ops.Ud aaS) (by simp [zN,H.ops.Ud.op]) al Yq (λw' _=>pL H.ops.Ud rfl w') (λa al uy=> ?_);refine uy.read (v:= .pointer (some ⟨w0.heap.size+1,0+0,none⟩)) rfl H.ops.S6 aaD (by simp [fK,H.ops.S6.op]) (by simp [eY,H.ops.S6.op]) (lL H.ops.S6 aaS) (by simp [zN,H.ops.S6.op]) al Yq (λw' _=>jv H.ops.S6 H.hT r1 r2 (by rw [r3];rfl) rfl w') (λa al uy=> ?_);refine uy.acq (v:=vb) rfl H.ops.h51 aaD (by simp [fK,H.ops.h51.op]) (by simp [eY,H.ops.h51.op]) (by simp [jq,mR,H.ops.h51.op]) H.s51 al Yq (λw' hw=>rz H.ops.h51 (j7 H.hT y1 y2 y3 (hw _ _ _ l4))) (λa al uy=> ?_);refine uy.anP (o:=o 52) rfl (λy hy p hp=> ?_) (by simp [fK,H.ops.h52.op]) (al.ah9 rfl H.ops.h52 (Ez H.ops.h52 H.hT p1 (by rw [p4,hn]) (by exact h2) rfl hos.cells (by rw [hh0];exact b1) (by rw [b2,hn])) ?_)
 .have hy:y=6\/y=7:=by simpa using hy
  rcases hy with rfl|rfl<;>cases hp
  .grind [Iw,H.ops.h53]
  .exact Iw H.ops.h54 aaS
 have ⟨W1,RU⟩: ∃W1,W1=W0.setRow w0.heap.size vs.toArray:=⟨_,rfl⟩
 rw [<-RU];have ru:W1.heap[w0.heap.size]? =some (.cells vs.toArray T2 (0,0)):=by rw [RU];exact (by grind [iy])
 have ⟨t1,t2⟩:=hM.close (W':=W1) l1 l2 l3 (by simp_all) (hr0.trans (by rw [RU];exact .setRow _ _ _)) (by grind [setRow_other]);refine ⟨⟨λoi hg=> ?_,t2⟩,?_⟩
 .have XB:pK c oi #[o 47,o 48,o 49,o 50,o 51,o 52,o 53,o 54] 5=(Oz c (o 52)||uO oi (o 52)):=rfl;rw [XB,WB H.ops.h52] at hg;cases hg
 have ⟨_,_,_,akk,_⟩:=uy.facts (o:=o 52) rfl;refine akk.read (v:=vb) rfl H.ops.h53 aaD (by simp [fK,H.ops.h53.op]) H.m53 (lL H.ops.h53 aaS) (by simp [zN,H.ops.h53.op]) al t2 (λw' _=>Bg H.ops.h53 w') (λa al uy=> ?_);refine uy.read (v:= .int .i64 0) rfl H.ops.h54 aaD (by simp [fK,H.ops.h54.op]) (by simp [eY,H.ops.h54.op]) (lL H.ops.h54 aaS) (by simp [zN,H.ops.h54.op]) al t2 (λw' _=>Bg H.ops.h54 w') (λa al uy=> ?_);refine uy.done ?_;refine wp_ret (hQ _ _ ?_);exact Kl H al ⟨T2,ru⟩ hn (by exact h2) (Ul t1 t2 hos l6)
def acu (H:Ai P c g k t f fI fX fn r o)(hM:xk c φ0 w0 φ W q vs)(al:Tm a 47 σ)(h2:σ 2= .pointer (some ⟨w0.heap.size,0,none⟩)){Q:Exit->Act->World->Prop}(hQ: ∀a W,bodyPost P fn (λe W=> ∃v,e= .returned v/\Km c φ0 w0 (.cT [.agg ZX,.list [],.i .i64 3]) v W) .ret a W->Q .ret a W): (Code.seq (.region (r 9) #[o 43,o 44,o 45,o 46] false) .ret).wp P Q a W:=by
 have ⟨φt,vb,l1,l2,l3,_⟩:=hM.sls;have ⟨Io,p1,p2,p3,p4⟩:=H.tyO;have ⟨zs,T2,b1,b2⟩:=hM.h2;refine wp_seq (wp_region ?_);refine al.st H.ops.Ye (Ey H.ops.Ye H.blO) λa al=> ?_;refine al.Af rfl H.ops.ZV (Ez H.ops.ZV H.hT p1 (by rw [p4];rfl) (by exact h2) rfl FK b1 (by rw [b2];rfl)) ?_;have ⟨W1,RU⟩: ∃W1,W1=W.setRow w0.heap.size Yo.toArray:=⟨_,rfl⟩
 rw [<-RU];have ru:W1.heap[w0.heap.size]? =some (.cells Yo.toArray T2 (0,0)):=by rw [RU];exact iy _ b1
 have ⟨t1,t2⟩:=hM.close (W':=W1) l1 l2 l3 (by simp_all) (by rw [RU];exact .setRow _ _ _) (by grind [setRow_other]);refine al.vd H.ops.h45 λa al=> ?_;refine al.vd H.ops.h46 λa al=> ?_;refine wp_ret (hQ _ _ ?_);exact Kl H al ⟨T2,ru⟩ rfl (by exact h2) (Ul t1 t2 (Pz.Xz PA) WC)
end
def bU.au9 {c:Ctx} {Z Z':Nat->Prop} {φ φ':Ph} {W W':World}{v:Value}{ty:Nat}{xs:List MV}(h:bU c (bn.plain Z) (mT c.key φ) W v ⟨ty,false,xs⟩)(hz: ∀b,v.ownBlock=some b->Z' b)(hp:gx φ φ')(hf: ∀b o,v.ownBlock=some b->φ' b o=φ b o)(hh: ∀b,v.ownBlock=some b->b<W.heap.size->W'.heap[b]? =W.heap[b]?): bU c (bn.plain Z') (mT c.key φ') W' v ⟨ty,false,xs⟩:=by
 obtain ⟨I,cells,q1,q2,q3,q4,q5⟩:=h.row;refine ⟨I,cells,q1,q2,⟨q3.1,?_⟩,q4.mono hp,λb hb=>⟨hz b hb,λoff u hu=>(q5 b hb).2.1 off u ?_,λhc=>hc.elim⟩⟩
 .rcases q3.2 with h6|⟨g,cap,cD,r1,r2,r3,r4⟩
  .exact .inl h6
  .exact .inr ⟨g,cap,cD,r1,r2,(hh g (by rw [r1];rfl) (a8 r3)).trans r3,r4⟩
 .have hu:φ' b off=some u:=hu;rw [hf b off hb] at hu;exact hu
section
variable {P:Program}{c:Ctx}{g:Nat->List MV->Option MV}{n:CN}{fn:Func}{r:Nat->Nat}{o:Nat->Oper}{φ0 φ1:Ph}{w0 W W':World}{bc br bd bv:Nat}{s s':CS}{v v' l:Int}{a:Act}{σ:Nat->Value}{Q:Exit->Act->World->Prop}{k:TkF}{t:ZY}{f fI fX:Nat}{φ φt:Ph}{q q':RQ}{vs:List Value}{res:MV}
theorem tm1 (v0:Value)(k:Nat):Tm {tmps:= #[v0]++IN k undef,defers:=[]} (k+1) (lp (λ_=>undef) 0 v0):=by
 refine ⟨rfl,by simp [Nat.add_comm],λq=> ?_⟩;by_cases h0:q=0
 .subst h0;show (#[v0]++IN k undef).getD 0 undef=v0;simp [ad6]
 have e:ad7 q 0=false:=by
  cases hq:ad7 q 0 with
  |false=>rfl
  |true=>exact absurd (sh hq) h0
 simp only [lp,e,cond_false];have h3:1<=q:=aah
 simp [ad6,aa0,show¬q<1 by omega];by_cases hk:q-1<k<;>simp [hk]
def an8 {φ:Ph}{W:World}(hi:ni φ W){b:Nat}(hb:W.heap.size<=b)(o:Nat):φ b o=none:=by
 cases hq:φ b o with
 |none=>rfl
 |some u=>exact absurd (adZ W _ (hi _ _ _ hq)) (Nat.not_lt.2 hb)
structure TkV (w0:World) (σ:Nat->Value):Prop where
 h2:σ 2= .pointer (some ⟨w0.heap.size,0,none⟩)
 h5:σ 5= .pointer (some ⟨w0.heap.size+1,0,none⟩)
 h6:σ 6= .pointer (some ⟨w0.heap.size+2,0,none⟩)
theorem Yr (H:Ai P c g k t f fI fX fn r o)(hM:xk c φ0 w0 φ W q vs)(h1: ∀m∈q.os,m.one=true)(al:Tm a 47 σ)(hV:TkV w0 σ)(hm:(if q.e=0 then (match g k.may [.agg q.os] with
  |some (.b true)=>some (.cT [.agg q.os,.list q.xs,.i .i64 0])
  |some (.b false)=>some (.cT [.agg ZX,.list [],.i .i64 3])
  |_=>none) else some (.cT [.agg ZX,.list [],.i .i64 q.e]))=some res):
 (Code.seq (.block 0 (.seq (.region (r 6) #[o 25,o 26,o 27,o 28,o 29,o 30] false) (.cond (.tmp 26) (.seq (.region (r 7) #[o 31,o 32,o 33,o 34,o 35,o 36,o 37,o 38] true) .ret) (.seq (.region (r 8) #[o 39,o 40,o 41,o 42] false) (.cond (.tmp 37) (.seq (.region (r 9) #[o 43,o 44,o 45,o 46] false) .ret) .skip))))) (.seq (.region (r 10) #[o 47,o 48,o 49,o 50,o 51,o 52,o 53,o 54] true) .ret)).wp P (bodyPost P fn λe W=> ∃v,e= .returned v/\Km c φ0 w0 res v W) a W:=by
 have ⟨Io,p1,p2,p3,p4⟩:=H.tyO;have ⟨IR,r1,r2,r3,r4⟩:=H.tyR;have ⟨Ie,e1,e2,e3⟩:=H.tye;refine wp_seq (wp_block ?_);refine wp_seq (wp_region ?_);refine al.cz (v:= .pointer (some ⟨w0.heap.size+1,0,none⟩)) H.ops.NK ((j6 H.ops.NK _).trans (by show Result.ok (Next.value (σ 5)) W=_;rw [hV.h5])) λa al=> ?_;refine al.step rfl H.ops.Ua aaD (pL H.ops.Ua rfl _) (λa al=> ?_);refine al.step rfl H.ops.X9 aaD (jv H.ops.X9 H.hT r1 r2 (q:=1) (by rw [r3];rfl) rfl _) (λa al=> ?_);refine al.cz (v:= .int .i64 q.e) H.ops.Wg (rz H.ops.Wg (j7 H.hT e1 e2 e3 (by grind [hM.lde]))) λa al=> ?_;refine al.st H.ops.Wh (afZ H.ops.Wh rfl rfl) λa al=> ?_;refine al.vd H.ops.ZT λa al=> ?_;by_cases he:q.e=0;rotate_left
 .rw [if_neg he,AS] at hm;subst hm;refine al.cond (b:=true) (by show AI (!decide (q.e=0))=_;grind) ?_;exact Yp H hM al hV.h2 hV.h5 (λa W h=>h)
 rw [if_pos he] at hm;refine al.cond (b:=false) (by show AI (!decide (q.e=0))=_;grind) ?_;refine wp_seq (wp_region ?_);have ⟨To,c1⟩:=hM.ho;have hos:=hM.os.Xz h1;refine al.cz (v:= .agg vs.toArray) H.ops.Yd (rz H.ops.Yd (by show (ad4 t.tO (σ 6)).run P W=_;grind [hV.h6,CT,H.hT,hM.n,wOf])) λa al=> ?_;have asJ: ∃b,g k.may [.agg q.os]=some (.b b):=by
  cases hg:g k.may [.agg q.os] with
  |none=>grind
  |some m=>grind
 have ⟨b,hb⟩:=asJ;have Im:da P k.may #[.agg vs.toArray] W λx W'=> ∃φ',Trans (λb=>W.heap.size<=b) φ W φ' W'/\ni φ' W'/\fA c (λb=>W.heap.size<=b) φ' W' (c.key k.may) x (.b b):=Bh (vs:=[.agg vs.toArray]) (by rw [H.key];exact H.gv.2.2) (H.snd _ _ _ hb) rfl ⟨_,_,rfl,RP hos,rfl⟩ hM.jU;refine al.call rfl H.ops.ZU aaD (Wq H.ops.ZU rfl rfl _) Im ?_;rintro x1 W1 a ⟨φ2,t1,m1,pk⟩ al;have GU:x1= .bool b:=JP pk;subst GU;have hM1:=hM.grow t1 m1;refine al.st H.ops.Uc (Pd H.ops.Uc rfl) λa al=> ?_;refine al.vd H.ops.h42 λa al=> ?_;rw [hb] at hm;cases b with
 |false=>simp at hm;subst hm;refine al.cond (b:=true) rfl ?_;exact acu H hM1 al hV.h2 (λa W h=>h)
 |true=>simp at hm;subst hm;refine al.cond (b:=false) rfl ?_;refine wp_skip ?_;exact acs H hM1 h1 al hV.h2 hV.h5 hV.h6 (λa W h=>h)
theorem Ys (H:Ai P c g k t f fI fX fn r o){xs:List MV}(hm:RS g k xs=some res):dJ P c f [.list xs] res:=by
 unfold RS at hm;cases hq1:FJ g k [0,1,2,5,6,7] ⟨xs,0,ZX⟩ with
 |none=>grind
 |some qa=>
 rw [hq1] at hm;dsimp only at hm;cases hq2:RR g k 3 100 qa with
 |none=>grind
 |some qb=>
 rw [hq2] at hm;dsimp only at hm;cases hq3:RR g k 4 1000 qb with
 |none=>grind
 |some qc=>
 rw [hq3] at hm;dsimp only at hm;intro φ0 w0 Z0 vs hz0 di iu;simp only [cv,H.key,H.gvF,Bool.false_eq_true,if_false] at di;obtain ⟨x,rest,rfl,hx,vc⟩:=di;have vc:rest=[]:=vc;subst vc;obtain ⟨hxr,hxc,GU⟩:=ah8 hx;obtain ⟨ad,cp,hxs,_⟩:=Hh hxr;refine (lH (R:=Km c φ0 w0 res) H.pos H.name H.body (calls_of_wp H.pos H.body ?_)).imp ?_;rotate_left
 .rintro v W ⟨φ',t1,t2,ms,arr,rfl,rfl,h3⟩;exact ⟨φ',t1.Aa hz0,t2,Ml.args h3⟩
 rw [H.tmps];obtain ⟨Io,p1,p2,p3,p4⟩:=H.tyO;obtain ⟨IL,pl1,pl2⟩:=H.tyL;obtain ⟨II,pi1,pi2,pi3⟩:=H.tyI;obtain ⟨hOi,hOc⟩:=aM p1;obtain ⟨hIi,SX⟩:=aM pi1;obtain ⟨iO,zO,hiO,hsO,_,hzO,asL⟩:=kG (H.hT _ Io hOi) hOc;have key: ∀a:Act,Tm a 47 (lp (λ_=>undef) 0 x)->(Kk r o).wp P (bodyPost P fn λe W=> ∃v,e= .returned v/\Km c φ0 w0 res v W) a w0:=by
  intro a al;unfold Kk;refine wp_seq (wp_region ?_);rw [show No (#[o 0,o 1,o 2]:Array Oper).size=[0,1,2] from rfl];refine al.step rfl H.ops.h0 aaD (Pm H.ops.h0 hiO hzO _) (λa al=> ?_);obtain ⟨W1,RU⟩: ∃W1,W1=w0.alloc (.cells zO.cells t.tO):=⟨_,rfl⟩
  rw [<-RU];have s1:W1.heap.size=w0.heap.size+1:=by rw [RU];simp
  have l1:W1.heap[w0.heap.size]? =some (.cells zO.cells t.tO (0,0)):=by rw [RU];exact fL w0 _
  have g1: ∀b,b<w0.heap.size->W1.heap[b]? =w0.heap[b]? :=λb hb=>by rw [RU];exact (cq.alloc w0 _ _).qo b hb
  have k1:Rest w0 W1:=by rw [RU];exact .alloc _ _ _
  refine al.vd (v:= .slice none 0 0) H.ops.h1 λa al=> ?_;refine al.vd (v:= .int .i64 0) H.ops.h2 λa al=> ?_;refine wp_seq (wp_region ?_);rw [show No (#[o 3,o 4,o 5,o 6]:Array Oper).size=[0,1,2,3] from rfl];refine al.mv (v:=x) H.ops.h3 λa al=> ?_;refine al.st (v:= .agg #[x,.int .i64 0]) H.ops.h4 (Ey H.ops.h4 (by rw [hxs];exact H.blR _ _ _)) λa al=> ?_;refine al.cz (v:= .pointer (some ⟨w0.heap.size+1,0,none⟩)) H.ops.h5 (by have:=Wp (P:=P) (e:=ev (lp (lp (lp (lp (lp (lp (λ_=>undef) 0 x) 2 (.pointer (some ⟨w0.heap.size,0,none⟩))) 3 (.slice none 0 0)) 4 (.int .i64 0)) 7 x) 8 (.agg #[x,.int .i64 0]))) H.ops.h5 W1;rw [s1] at this;exact this) λa al=> ?_;obtain ⟨W2,RD⟩: ∃W2,W2=W1.alloc (.cells [x,.int .i64 0].toArray t.tR):=⟨_,rfl⟩
  have hc2:(Value.agg #[x,.int .i64 0]).cells=[x,.int .i64 0].toArray:=rfl;show wpOps P _ _ _ a (W1.alloc (.cells (Value.agg #[x,.int .i64 0]).cells t.tR));rw [hc2,<-RD];have s2:W2.heap.size=w0.heap.size+2:=by rw [RD];simp [s1]
  have l2:W2.heap[w0.heap.size+1]? =some (.cells [x,.int .i64 0].toArray t.tR (0,0)):=by rw [RD,<-s1];exact fL W1 _
  have g2: ∀b,b<w0.heap.size+1->W2.heap[b]? =W1.heap[b]? :=λb hb=>by rw [RD];exact (cq.alloc W1 _ _).qo b aah
  have k2:Rest W1 W2:=by rw [RD];exact .alloc _ _ _
  refine al.vd (v:= .pointer (some ⟨w0.heap.size+1,0,none⟩)) H.ops.h6 λa al=> ?_;refine wp_seq (wp_region ?_);rw [show No (#[o 7,o 8,o 9]:Array Oper).size=[0,1,2] from rfl];refine al.st (v:= .agg Yo.toArray) H.ops.h7 (Ey H.ops.h7 H.blO) λa al=> ?_;refine al.cz (v:= .pointer (some ⟨w0.heap.size+2,0,none⟩)) H.ops.h8 (by rw [<-s2];exact Pm H.ops.h8 hiO hzO _) λa al=> ?_;obtain ⟨W3,ZW⟩: ∃W3,W3=W2.alloc (.cells zO.cells t.tO):=⟨_,rfl⟩
  rw [<-ZW];have s3:W3.heap.size=w0.heap.size+3:=by rw [ZW];simp [s2]
  have l3:W3.heap[w0.heap.size+2]? =some (.cells zO.cells t.tO (0,0)):=by rw [ZW,<-s2];exact fL W2 _
  have g3: ∀b,b<w0.heap.size+2->W3.heap[b]? =W2.heap[b]? :=λb hb=>by rw [ZW];exact (cq.alloc W2 _ _).qo b aah
  have k3:Rest W2 W3:=by rw [ZW];exact .alloc _ _ _
  refine al.Af rfl H.ops.h9 (Ez H.ops.h9 H.hT p1 (by rw [p4];rfl) rfl rfl FK l3 (by rw [asL,p4];rfl)) ?_;obtain ⟨W4,hW4⟩: ∃W4,W4=W3.setRow (w0.heap.size+2) Yo.toArray:=⟨_,rfl⟩
  rw [<-hW4];have s4:W4.heap.size=w0.heap.size+3:=by rw [hW4,setRow_size,s3]
  have l4:W4.heap[w0.heap.size+2]? =some (.cells Yo.toArray t.tO (0,0)):=by rw [hW4];exact iy _ l3
  have g4: ∀b,b≠w0.heap.size+2->W4.heap[b]? =W3.heap[b]? :=(by grind [setRow_other])
  have k4:Rest W3 W4:=by rw [hW4];exact .setRow _ _ _
  refine wp_seq (wp_region ?_);rw [show No (#[o 10,o 11,o 12,o 13,o 14,o 15,o 16,o 17,o 18]:Array Oper).size=[0,1,2,3,4,5,6,7,8] from rfl];refine al.mv (v:= .pointer (some ⟨w0.heap.size+1,0,none⟩)) H.ops.Fz λa al=> ?_;refine al.st (v:= .pointer (some ⟨w0.heap.size+2,0,none⟩)) H.ops.Mr (jv (off:=0) (q:=0) H.ops.Mr H.hT p1 p2 (by rw [p3];rfl) rfl) λa al=> ?_;refine al.st (v:= .pointer (some ⟨w0.heap.size+2,1,none⟩)) H.ops.LY (jv (off:=0) (q:=1) H.ops.LY H.hT p1 p2 (by rw [p3];rfl) rfl) λa al=> ?_;refine al.st (v:= .pointer (some ⟨w0.heap.size+2,2,none⟩)) H.ops.JW (jv (off:=0) (q:=2) H.ops.JW H.hT p1 p2 (by rw [p3];rfl) rfl) λa al=> ?_;refine al.st (v:= .pointer (some ⟨w0.heap.size+2,5,none⟩)) H.ops.Pe (jv (off:=0) (q:=5) H.ops.Pe H.hT p1 p2 (by rw [p3];rfl) rfl) λa al=> ?_;refine al.st (v:= .pointer (some ⟨w0.heap.size+2,6,none⟩)) H.ops.LZ (jv (off:=0) (q:=6) H.ops.LZ H.hT p1 p2 (by rw [p3];rfl) rfl) λa al=> ?_;refine al.st (v:= .pointer (some ⟨w0.heap.size+2,7,none⟩)) H.ops.Ir (jv (off:=0) (q:=7) H.ops.Ir H.hT p1 p2 (by rw [p3];rfl) rfl) λa al=> ?_;obtain ⟨ps,GV⟩: ∃ps:List Value,ps=[0,1,2,5,6,7].map λj=>bo (some ⟨w0.heap.size+2,j,none⟩):=⟨_,rfl⟩
  obtain ⟨W5,hW5⟩: ∃W5,W5=W4.alloc (.cells ps.toArray t.tI):=⟨_,rfl⟩
  refine al.step (v:= .slice (some ⟨w0.heap.size+3,0,none⟩) 6 6) (w':=W5) rfl H.ops.Pf aaD ?_ (λa al=> ?_)
  .have h6:ps.length=6:=by rw [GV];rfl
   have:=ON (P:=P) (c:=c) (w:=W4) (t:=t.tL) (I:=IL) (E:=II) (vs:=ps) (parts:= #[(0,bo (some ⟨w0.heap.size+2,0,none⟩)),(1,bo (some ⟨w0.heap.size+2,1,none⟩)),(2,bo (some ⟨w0.heap.size+2,2,none⟩)),(3,bo (some ⟨w0.heap.size+2,5,none⟩)),(4,bo (some ⟨w0.heap.size+2,6,none⟩)),(5,bo (some ⟨w0.heap.size+2,7,none⟩))]) (by grind [H.afU]) (by grind) SX aah H.hT (by grind) (by rw [GV];intro v hv;simp at hv;rcases hv with rfl|rfl|rfl|rfl|rfl|rfl<;>rw [pi3]<;>rfl) (by rw [GV];rfl);have hfl:(ps.flatMap λv=>v.cells.toList)=ps:=by rw [GV];rfl
   rw [h6,hfl,s4,pl2,<-hW5] at this;simp [execOp,H.ops.Pf.op];rw [show (ev _:Operand->Value) (.tmp 12)=bo (some ⟨w0.heap.size+2,0,none⟩) from rfl,show (ev _:Operand->Value) (.tmp 13)=bo (some ⟨w0.heap.size+2,1,none⟩) from rfl,show (ev _:Operand->Value) (.tmp 14)=bo (some ⟨w0.heap.size+2,2,none⟩) from rfl,show (ev _:Operand->Value) (.tmp 15)=bo (some ⟨w0.heap.size+2,5,none⟩) from rfl,show (ev _:Operand->Value) (.tmp 16)=bo (some ⟨w0.heap.size+2,6,none⟩) from rfl,show (ev _:Operand->Value) (.tmp 17)=bo (some ⟨w0.heap.size+2,7,none⟩) from rfl,this];rfl
  have s5:W5.heap.size=w0.heap.size+4:=by rw [hW5];simp [s4]
  have l5:W5.heap[w0.heap.size+3]? =some (.cells ps.toArray t.tI (0,0)):=by rw [hW5,<-s4];exact fL W4 _
  have g5: ∀b,b<w0.heap.size+3->W5.heap[b]? =W4.heap[b]? :=λb hb=>by rw [hW5];exact (cq.alloc W4 _ _).qo b aah
  have k5:Rest W4 W5:=by rw [hW5];exact .alloc _ _ _
  have hold: ∀b,b<w0.heap.size->W5.heap[b]? =w0.heap[b]? :=(by grind)
  have Ra: ∀b o,w0.heap.size<=b->φ0 b o=none:=λb o hb=>an8 iu hb o;have asM:ni φ0 W5:=λb o u hu=>sC (iu b o u hu) λhl=>hold b hl;have hle:=J3 (vs:=ps) λo=>Ra (w0.heap.size+3) o aah;have hM:xk c φ0 w0 (NP φ0 (w0.heap.size+3) ps) W5 ⟨xs,0,ZX⟩ Yo:=by refine ⟨Eo asM l5,⟨hle,λb hb hl=>hold b hl,λb o hb=>by unfold NP;grind,aah,(((k1.trans k2).trans k3).trans k4).trans k5⟩,(by grind),⟨x,t.tR,by grind,hxr.mono hle⟩,(by grind),Pz,rfl,λj o hj=> ?_⟩;unfold NP;rw [if_neg aah];exact Ra _ o aah
  obtain ⟨BT,r1,o1,F1⟩:=H.ints;obtain ⟨Iv,r2,o2,F2⟩:=H.text;have wh:=afX (ba:=w0.heap.size+3) (φ1:=NP φ0 (w0.heap.size+3) ps) H.toafT F1 (lK:=[0,1,2,5,6,7]) aaD aaD (λj hj=>by unfold NP;grind) (.refl _) hM hq1;refine al.call rfl H.ops.Qm aaD (Wr H.ops.Qm rfl rfl rfl _) wh ?_;rintro y1 W6 a ⟨φ6,vs6,_,hM6⟩ al;have asN:=acr PA hq1;refine wp_seq (wp_region ?_);rw [show No (#[o 19,o 20,o 21]:Array Oper).size=[0,1,2] from rfl];refine al.mv (v:= .pointer (some ⟨w0.heap.size+1,0,none⟩)) H.ops.Rz λa al=> ?_;refine al.st (v:= .pointer (some ⟨w0.heap.size+2,3,none⟩)) H.ops.S3 (jv (off:=0) (q:=3) H.ops.S3 H.hT p1 p2 (by rw [p3];rfl) rfl) λa al=> ?_;refine al.call rfl H.ops.Qn aaD (Ws H.ops.Qn rfl rfl rfl rfl _) (Wy H.toafT F2 (j:=3) aaD (.refl _) hM6 hq2) ?_;rintro y2 W7 a ⟨φ7,vs7,_,hM7⟩ al;have asO:=WA asN hq2;refine wp_seq (wp_region ?_);rw [show No (#[o 22,o 23,o 24]:Array Oper).size=[0,1,2] from rfl];refine al.mv (v:= .pointer (some ⟨w0.heap.size+1,0,none⟩)) H.ops.S4 λa al=> ?_;refine al.st (v:= .pointer (some ⟨w0.heap.size+2,4,none⟩)) H.ops.Pg (jv (off:=0) (q:=4) H.ops.Pg H.hT p1 p2 (by rw [p3];rfl) rfl) λa al=> ?_;refine al.call rfl H.ops.RB aaD (Ws H.ops.RB rfl rfl rfl rfl _) (Wy H.toafT F2 (j:=4) aaD (.refl _) hM7 hq3) ?_;rintro y3 W8 a ⟨φ8,vs8,_,hM8⟩ al;exact Yr H hM8 (WA asO hq3) al ⟨rfl,rfl,rfl⟩ hm
 grind [tm1]
def WD (g:Nat->List MV->Option MV)(k:TkF):List MV->Option MV
 |[.list xs]=>RS g k xs
 |_=>none
def af1 (H:Ai P c g k t f fI fX fn r o){ms:List MV}(hm:WD g k ms=some res):dJ P c f ms res:=by unfold WD at hm;grind [Ys]
end
def af2 (r:Nat->Nat)(o:Nat->Oper):Code:= .seq (.region (r 0) #[o 0] false) (.seq (.region (r 1) #[o 1,o 2,o 3,o 4] false) .ret)
def af3 (r:Nat->Nat)(o:Nat->Oper):Code:= .seq (.region (r 0) #[o 0] false) (.seq (.region (r 1) #[o 1,o 2] false) (.seq (.region (r 2) #[o 3,o 4,o 5] false) (.seq (.region (r 3) #[o 6,o 7,o 8] false) .ret)))
structure af4 where
 tP:Nat
 tB:Nat
 tO:Nat
 tS:Nat
 tE:Nat
 fN:Nat
 fF:Nat
 fW:Nat
 fS:Nat
structure akl (n:af4) (o:Nat->Oper):Prop where
 h0:ai (o 0) 0 (.assign (.const (.pointer none)))
 h1:ai (o 1) 1 (.call {callee:= .value (.func n.fF),args:= #[],argTypes:= #[]})
 h2:ai (o 2) 2 (.build n.tS #[(0,.tmp 1)])
 h3:ai (o 3) 3 (.box n.tS (.tmp 2))
 h4:ai (o 4) 0 (.assign (.tmp 3))
structure akm (n:af4) (o:Nat->Oper):Prop where
 h0:ai (o 0) 2 (.alloc n.tO)
 h1:ai (o 1) 4 (.call {callee:= .value (.func n.fN),args:= #[],argTypes:= #[]})
 h2:ai (o 2) 3 (.assign (.tmp 4))
 h3:ai (o 3) 5 (.move (.tmp 3))
 h4:ai (o 4) 6 (.move (.tmp 0))
 h5:ai (o 5) 7 (.call {callee:= .value (.func n.fW),args:= #[.tmp 5,.tmp 6],argTypes:= #[n.tP,n.tB]})
 h6:ai (o 6) 8 (.move (.tmp 3))
 h7:ai (o 7) 9 (.call {callee:= .value (.func n.fS),args:= #[.tmp 8],argTypes:= #[n.tP]})
 h8:eO (o 8) (.store n.tO (.tmp 2) (.tmp 9))
def ksW (tE:Nat):List LK:=[.k (.h .u32 6),.own 2000001 tE false,.k (.i .i64)]
def ksS:List LK:=[.k (.h .u32 6),.k .l,.k (.i .i64)]
structure aoa (P:Program) (c:Ctx) (g:Nat->List MV->Option MV) (n:af4) (f:Nat) (fn fm:Func) (r:Nat->Nat) (o p:Nat->Oper):Prop where
 hT:fw P c.ti
 key: ∀k,c.key k=k
 snd: ∀k ms x,g k ms=some x->dJ P c k ms x
 gvs:c.bK n.fF=false/\c.bK n.fW=true/\c.bK n.fS=true/\c.bK f=false
 sig:c.sig n.fW=some (0,ksW n.tE,ksS)/\c.sig n.fS=some (0,ksS,ksS)
 tyE: ∃I,c.tv n.tE=some I
 tyO: ∃I,c.tv n.tO=some I/\I.size=32
 pos:P.funcs[f]? =some fn
 name:(fn.name== "runtime.NumGoroutine")=false
 tmps:fn.ntmps=10
 res:fn.results= #[.cell 2 n.tO]
 body:fn.body=some (af3 r o)
 ops:akm n o
 pos':P.funcs[n.fN]? =some fm
 aob:(fm.name== "runtime.NumGoroutine")=false
 aoc:fm.ntmps=4
 asQ:fm.results= #[.tmp 0]
 aib:fm.body=some (af2 r p)
 RV:akl n p
 bld: ∀u0 u1 u2 u3 u4 u5 u6 u7:Int,P.built n.tS [(0,.agg #[.int .u32 u0,.int .u32 u1,.int .u32 u2,.int .u32 u3,.int .u32 u4,.int .u32 u5,.int .u32 u6,.int .u32 u7])]= some #[.int .u32 u0,.int .u32 u1,.int .u32 u2,.int .u32 u3,.int .u32 u4,.int .u32 u5,.int .u32 u6,.int .u32 u7,.slice none 0 0,.int .i64 0]
def tm0 (k:Nat):Tm {tmps:= #[]++IN k undef,defers:=[]} k (λ_=>undef):=by refine ⟨rfl,aaS,λq=> ?_⟩;simp [aa0];grind
section
variable {P:Program}{c:Ctx}{g:Nat->List MV->Option MV}{n:af4}{f:Nat}{fn fm:Func}{r:Nat->Nat}{o p:Nat->Oper}{φ:Ph}{w:World}
def af5 {o:Oper}{d:Nat}{t:Array TypeId}{k:Nat}{e:Operand->Value}(ho:ai o d (.call {callee:= .value (.func k),args:= #[],argTypes:=t})) (he:e (.func k)= .func (.func k) #[] #[]) (w:World):(execOp e o).run P w=(callFunc k #[]).run P w:=by simp [execOp,ho.op,resolve,invoke,he,aeb]
def eight {s:List Int}(h:s.length=8): ∃a0 a1 a2 a3 a4 a5 a6 a7,s=[a0,a1,a2,a3,a4,a5,a6,a7]:=by
 match s,h with
 |[a0,a1,a2,a3,a4,a5,a6,a7],_=>grind
def Um (H:aoa P c g n f fn fm r o p){s:List Int}(hs:g n.fF []=some (.h .u32 6 s))(hi:ni φ w): da P n.fN #[] w λv W=> ∃b φ',v= .pointer (some ⟨b,0,none⟩)/\w.heap.size<=b/\s.length=8/\W.heap[b]? =some (.cells (bE .u32 s++[aec none 0 0,aeh .i64 0]).toArray n.tS (0,0))/\ (∀o,φ' b o=none)/\Trans (λb=>w.heap.size<=b) φ w φ' W/\ni φ' W:=by
 refine lH H.pos' H.aob H.aib (calls_of_wp H.pos' H.aib ?_);rw [H.aoc];have asR:Tm {tmps:= #[]++IN (4-(#[]:Array Value).size) undef,defers:=[]} 4 (λ_=>undef):=tm0 4;refine wp_seq (wp_region ?_);refine asR.vd (v:= .pointer none) H.RV.h0 λa al=> ?_;refine wp_seq (wp_region ?_);have hc:=Bh (vs:=[]) (by rw [H.key];exact H.gvs.1) (H.snd _ _ _ hs) rfl rfl hi;refine al.call rfl H.RV.h1 aaD (af5 H.RV.h1 rfl _) hc ?_;rintro x W a ⟨φ',t1,t2,hx⟩ al;obtain ⟨rfl,hl⟩:x= .agg (s.map (aeh .u32)).toArray/\s.length=8:=hx;obtain ⟨a0,a1,a2,a3,a4,a5,a6,a7,rfl⟩:=eight hl;refine al.st (v:= .agg (bE .u32 [a0,a1,a2,a3,a4,a5,a6,a7]++[aec none 0 0,aeh .i64 0]).toArray) H.RV.h2 (Ey H.RV.h2 (H.bld a0 a1 a2 a3 a4 a5 a6 a7)) λa al=> ?_;refine al.cz (v:= .pointer (some ⟨W.heap.size,0,none⟩)) H.RV.h3 (Wp H.RV.h3 W) λa al=> ?_;refine al.vd (v:= .pointer (some ⟨W.heap.size,0,none⟩)) H.RV.h4 λa al=> ?_;refine wp_ret ?_;refine ⟨al.defers,.pointer (some ⟨W.heap.size,0,none⟩),?_,_,rfl,W.heap.size,φ',rfl,t1.size,rfl,?_,λo=> ?_,t1.trans ?_,?_⟩
 .have h0:a.tmps[0]?.getD undef= .pointer (some ⟨W.heap.size,0,none⟩):=by have:=al.get 0;simpa [lp] using this
  simp [results,H.asQ,fB,h0]
 .exact fL W _
 .cases ho:φ' W.heap.size o with
  |none=>rfl
  |some u=>have:=adZ W _ (t2 _ _ _ ho);simp at this
 .exact ⟨.refl _,(by grind [nb]),λ_ _ _=>rfl,by simp_all,.alloc _ _ _⟩
 .exact λb o u hu=>sC (t2 b o u hu) (by grind [nb])
end
structure Kn where
 A1:Code
 A2:Code
 C:Code
 tL:Nat
 es:List (Int×Nat)
 gone:List Nat
def af6 {R:Type}:List (Int×Nat)->Int->(Option Nat->Option R)->Option R
 |[],_,K=>K none
 |(a,f)::r,k,K=>gk (decide (k=a)) (K (some f)) (af6 r k K)
def unB (st:St):List Nat->Bool
 |[]=>true
 |t::r=>(match ap st.fr t with| .sc .un=>!bB st.ca t&&unB st r|_=>false)
noncomputable def acv (c:Ctx)(s:Kn)(st:St)(K:Nat->St->Option MV):Option MV:=lu c s.A1 MV st λe st=>bif ad7 e 0 then lu c s.A2 MV st λe st=>bif ad7 e 0&&unB st s.gone then (match ap st.fr 3,ap st.fr 6 with
  | .box (.p (.i .i64 k)::ls),.ptr _ _=>af6 s.es k λof=>(match of,c.tv s.tL with
   |none,_=>lu c s.C MV st K
   |some f,some I=>iB I (.p (.i .i64 k)::ls) 0 λx=>aR c st (some 42) x λst=>(match c.sig (c.key f) with
    |some sg=>aaj c (c.key f) sg.1 sg.2.1 sg.2.2 st [az c st (.tmp 6),az c st (.tmp 42)] none λx st=>aR c st (some 43) x λst=>lu c s.C MV st K
    |none=>none)
   |_,_=>none)
  |_,_=>none) else none else none
def af7 {R:Type}{es:List (Int×Nat)}{k:Int}{K:Option Nat->Option R}:af6 es k K=K ((es.find? λp=>decide (p.1=k)).map (·.2)):=by
 induction es with
 |nil=>rfl
 |cons p es ih=>
  obtain ⟨a,f⟩:=p;unfold af6;by_cases h:k=a
  .subst h;simp [gk]
  .have: ¬a=k:=λe=>h e.symm;simp [gk,h,this,ih]
def Ko (s:Kn)(r:Nat->Nat)(o:Nat->Oper):Code:= .seq s.A1 (.seq s.A2 (.seq (.region (r 2) #[o 8,o 9,o 10,o 11,o 12,o 13,o 14,o 15,o 16,o 17,o 18,o 19,o 20,o 21,o 22,o 23,o 24,o 25,o 26,o 27,o 28,o 29,o 30,o 31,o 32,o 33,o 34,o 35,o 36,o 37] false) (.seq (.seq (.region (r 3) #[o 38,o 39,o 40,o 41,o 42,o 43,o 44,o 45,o 46] false) (.seq (.region (r 4) #[o 47] false) (.cond (.tmp 40) (.region (r 5) #[o 48,o 49,o 50] false) .skip))) s.C)))
def Un (o:Nat->Oper)(tM:TypeId):Nat->Nat->List (Int×Nat)->Prop
 |_,_,[]=>True
 |i,t,(k,f)::r=>ai (o i) t (.move (.tmp 6))/\ai (o (i+1)) (t+1) (.makeFunc (.func f) #[.tmp t] #[])/\eO (o (i+2)) (.insert tM (.tmp 13) (.const (.int .i64 k)) (.tmp (t+1)))/\Un o tM (i+3) (t+2) r
structure PB (P:Program) (c:Ctx) (s:Kn) (tM tF ti:TypeId) (o:Nat->Oper):Prop where
 aoe: ∃kt,P.underlying tM=some (.map kt tF)/\P.underlying kt=some (.int .i64)
 fnT: ∃sg,P.underlying tF=some sg/\ ∀w:World,(zeroValue tF).run P w= .ok .nilFunc w
 tyL: ∃I,c.tv s.tL=some I/\I.st=true/\I.vN[0]? =some 0
 tyi: ∃I,c.tv ti=some I/\I.st=false/\I.size=1
 h8:ai (o 8) 13 (.makeMap tM none)
 aof:Un o tM 9 14 s.es
 Yc:ai (o 36) 32 (.move (.tmp 13))
 Ub:ai (o 37) 7 (.assign (.tmp 32))
 Wk:ai (o 38) 34 (.move (.tmp 7))
 Yd:ai (o 39) 35 (.fieldAddr s.tL (.tmp 3) 0)
 ZU:ai (o 40) 36 (.load ti (.tmp 35))
 Uc:ai (o 41) 37 (.lookup tM (.tmp 34) (.tmp 36) true)
 h42:ai (o 42) 33 (.move (.tmp 37))
 Ye:ai (o 43) 38 (.extract (.tmp 33) 0)
 ZV:ai (o 44) 39 (.extract (.tmp 33) 1)
 h45:ai (o 45) 8 (.assign (.tmp 38))
 h46:ai (o 46) 9 (.assign (.tmp 39))
 Wl:ai (o 47) 40 (.move (.tmp 9))
 VM:ai (o 48) 41 (.move (.tmp 8))
 Ud:ai (o 49) 42 (.load s.tL (.tmp 3))
 S6: ∃ts,ai (o 50) 43 (.call {callee:= .value (.tmp 41),args:= #[.tmp 42],argTypes:=ts})
 n:c.n=48
 len:s.es.length=9
 nd:(s.es.map (·.1)).Nodup
 gone:s.gone=[7,8,9,13,14,15,16,17,18,19,20,21,22,23,24,25,26,27,28,29,30,31,32,33,34,35,36,37,38,39,40,41]
 key: ∀f,c.key f=f
section
variable {P:Program}{c:Ctx}{Z:bn}{e:Env}{st:St} {a a':Act} {w w' W:World}{Q:Exit->Act->World->Prop} {σ:Nat->Value}{n:Nat}{o:Oper}
def af8 {l:List Nat}(h:unB st l=true): ∀t∈l,ap st.fr t= .sc .un/\bB st.ca t=false:=by
 induction l with
 |nil=>simp
 |cons t l ih=>
  unfold unB at h;split at h
  .rename_i hf;simp only [ad0,aea] at h;intro u hu;rcases ab3.1 hu with rfl|hu
   .exact ⟨hf,h.1⟩
   .exact ih h.2 u hu
  .cases h
def bC.aog {l:List Nat}(h:bC c Z e st a w)(hl:unB st l=true)(hd:a'.defers=[])(hs:a'.tmps.size=c.n)(hg: ∀t,t∉l->a'.tmps.getD t undef=a.tmps.getD t undef):bC c Z e st a' w:=by
 have hm:=af8 hl;refine ⟨⟨hd,h.defers.2.1,h.defers.2.2.1,λt ht=> ?_⟩,hs,h.m,h.key,h.nodup,λt=> ?_,h.root,h.fJ,h.bb,h.bf,h.ff,h.jU,h.bI⟩
 .rw [hg t ?_]
  .exact h.defers.2.2.2 t ht
  .intro hc;have:=(hm t hc).2;rw [h.defers.2.1] at this;rw [(bm _ _).2 ht] at this;cases this
 .by_cases hc:t∈l
  .rw [(hm t hc).1];trivial
  .rw [hg t hc];exact h.slot t
def yT (v:Value)(es:List (Int×Nat)):List (Value×Value):=es.map λp=>(.int .i64 p.1,.func (.func p.2) #[v] #[])
def NT {v:Value}{k:Int}{es:List (Int×Nat)}: ∀{l:List MapEntry} {j:Nat},l.map (λx=>(x.key,x.val))=yT v es-> ∃q,ad9 (.int .i64) (.int .i64 k) l j=some q/\q.map (·.2)=(es.find? λp=>decide (p.1=k)).map λp=>Value.func (.func p.2) #[v] #[]:=by
 induction es with
 |nil=>intro l j h;cases l with
  |nil=>exact ⟨none,rfl,rfl⟩
  |cons=>simp [yT] at h
 |cons p es ih=>
  intro l j h;cases l with
  |nil=>simp [yT] at h
  |cons x l=>
   simp only [yT,List.map_cons,List.cons.injEq,Prod.mk.injEq] at h;obtain ⟨⟨h1,h2⟩,h3⟩:=h;by_cases hk:p.1=k
   .refine ⟨some (j,x.val),?_,?_⟩
    .simp [ad9,aeg,h1,hk]
    .simp [hk,h2]
   .have hk': ¬k=p.1:=λe=>hk e.symm;obtain ⟨q,g1,g2⟩:=ih (j:=j+1) (show l.map (λx=>(x.key,x.val))=yT v es from h3);refine ⟨q,?_,?_⟩
    .have hb:(k==p.1)=false:=by simpa using hk'
     simp [ad9,aeg,h1,hb,g1]
    .simp [hk,g2]
def Yt {f d:Nat}{x:Operand}{ev:Operand->Value}(ho:ai o d (.makeFunc (.func f) #[x] #[]))(w:World):(execOp ev o).run P w= .ok (.value (.func (.func f) #[ev x] #[])) w:=by simp [execOp,ho.op,Instr.makeFunc]
def Uo {tM kt tF:TypeId}{m k x:Operand}{ev:Operand->Value}{b clock:Nat}{n:Int}{v vw:Value}{acc:Array MapEntry}{es:List (Int×Nat)}(ho:eO o (.insert tM m k x))(hu:P.underlying tM=some (.map kt tF))(hk:P.underlying kt=some (.int .i64))(h1:ev m= .map (some b))(h2:ev k= .int .i64 n)(h3:ev x=v)(hh:w.heap[b]? =some (.map acc clock))(ha:acc.toList.map (λx=>(x.key,x.val))=yT vw es)(hn: ∀p∈es,p.1≠n): (execOp ev o).run P w= .ok .skip {w with heap:=w.heap.setIfInBounds b (.map (acc.push {key:= .int .i64 n,val:=v,born:=clock}) (clock+1))}:=by
 obtain ⟨q,g1,g2⟩:=NT (k:=n) (j:=0) ha;have QR:es.find? (λp=>decide (p.1=n))=none:=by rw [List.find?_eq_none];intro p hp;simpa using hn p hp
 rw [QR] at g2;have hq:q=none:=by cases q<;>simp_all
 subst hq;simp [execOp,ho.op,h1,h2,h3,Instr.mapUpdate,run_underlying hu,AT hh,BY hk (show MapKept.IsKey (.int .i64) (.int .i64 n) from rfl),IT hk g1,MapKept.run_setObj_map _ hh,OF]
structure af9 (b:Nat) (l:List (Value×Value)) (w w':World):Prop where
 size:w'.heap.size=w.heap.size+1
 qo: ∀i,i<w.heap.size->w'.heap[i]? =w.heap[i]?
 rest:Rest w w'
 obj: ∃acc clock,w'.heap[b]? =some (.map acc clock)/\acc.toList.map (λx=>(x.key,x.val))=l
theorem Yu {ops:Array Oper}{oo:Nat->Oper}{tM kt tF:TypeId}{Q:Exit->Act->World->Prop}{rest:List Nat}{vw:Value}{w0:World}(hu:P.underlying tM=some (.map kt tF))(hk:P.underlying kt=some (.int .i64)): ∀{es pre:List (Int×Nat)} {i t:Nat} {a:Act} {w:World} {σ:Nat->Value},Tm a n σ->σ 6=vw->σ 13= .map (some w0.heap.size)->13<t->t+2 *es.length<=n->Un oo tM (i+8) t es->(∀j,j<3 *es.length->ops[i+j]? =some (oo (i+8+j)))-> ((pre++es).map (·.1)).Nodup->af9 w0.heap.size (yT vw pre) w0 w-> (∀a' w' σ',Tm a' n σ'->(∀u,u<t->σ' u=σ u)->(∀u,t+2 *es.length<=u->σ' u=σ u)->af9 w0.heap.size (yT vw (pre++es)) w0 w'->wpOps P ops Q rest a' w')->wpOps P ops Q (aed i (3 *es.length)++rest) a w:=by
 intro es;induction es with
 |nil=>intro pre i t a w σ al h6 JW ht hn he ho hnd hM Cg;exact Cg a w σ al (λ_ _=>rfl) (λ_ _=>rfl) (by simpa using hM)
 |cons p es ih=>
  intro pre i t a w σ al h6 JW ht hn he ho hnd hM Cg;obtain ⟨k,f⟩:=p;obtain ⟨e1,e2,e3,e4⟩:=he;simp only [List.length_cons] at hn ho Cg⊢;have hr:aed i (3 *(es.length+1))=i::(i+1)::(i+2)::aed (i+3) (3 *es.length):=by rw [show 3 *(es.length+1)=3 *es.length+1+1+1 by omega,ad1,ad1,ad1]
  rw [hr];have dt: ∀x y:Nat,x≠y->ad7 x y=false:=λx y h=>by
   cases hq:ad7 x y with
   |false=>rfl
   |true=>exact absurd (sh hq) h
  refine al.step (ho 0 aah) e1 aah (j6 e1 w) (λa1 h1=> ?_);refine h1.step (ho 1 aah) e2 aah (Yt e2 w) (λa2 h2=> ?_);have v6:ev (lp σ t (ev σ (.tmp 6))) (.tmp t)=vw:=by show lp σ t (σ 6) t=vw;unfold lp;rw [aen];exact h6
  rw [v6] at h2;obtain ⟨acc,clock,hh,ha⟩:=hM.obj;have x13: ∀v v',lp (lp σ t v) (t+1) v' 13= .map (some w0.heap.size):=by intro v v';unfold lp;rw [dt 13 (t+1) aah,dt 13 t aah];exact JW
  have dh:w0.heap.size<w.heap.size:=by rw [hM.size];omega
  refine h2.Af (ho 2 aah) e3 (Uo (v:= .func (.func f) #[vw] #[]) e3 hu hk (x13 _ _) rfl (by show lp _ (t+1) _ (t+1)=_;unfold lp;rw [aen];rfl) hh ha (λp hp hc=> ?_)) ?_
  .rw [aef,List.nodup_append] at hnd;exact hnd.2.2 p.1 (List.mem_map_of_mem hp) k aaS hc
  refine ih (pre:=pre++[(k,f)]) (t:=t+2) h2 ?_ (x13 _ _) aah aah (by rw [show i+3+8=i+8+3 by omega];exact e4) (λj hj=> ?_) (by simpa using hnd) ?_ (λa' w' σ' g1 g2 g3 g4=> ?_)
  .show lp (lp σ t _) (t+1) _ 6=vw;unfold lp;rw [dt 6 (t+1) aah,dt 6 t aah];exact h6
  .have:=ho (3+j) aah;rw [show i+3+j=i+(3+j) by omega,this];rw [show i+3+8+j=i+8+(3+j) by omega]
  .refine ⟨by simp [hM.size],λj hj=> ?_,hM.rest.trans ⟨rfl,rfl,rfl⟩,acc.push {key:= .int .i64 k,val:= .func (.func f) #[vw] #[],born:=clock},clock+1,?_,?_⟩
   .show (w.heap.setIfInBounds _ _)[j]? =_;rw [Array.getElem?_setIfInBounds_ne aah];exact hM.qo j hj
   .show (w.heap.setIfInBounds _ _)[w0.heap.size]? =_;rw [Array.getElem?_setIfInBounds_self_of_lt dh]
   .rw [Array.toList_push,aef,ha];simp [yT]
  .refine Cg a' w' σ' g1 (λu hu=> ?_) (λu hu=> ?_) (by simpa using g4)
   .rw [g2 u aah];unfold lp;rw [dt u (t+1) aah,dt u t aah];rfl
   .rw [g3 u aah];unfold lp;rw [dt u (t+1) aah,dt u t aah];rfl
def Kp {tM kt tF d:Nat}{m k:Operand}{ev:Operand->Value}{b clock:Nat}{n:Int}{vw:Value}{acc:Array MapEntry}{es:List (Int×Nat)}(ho:ai o d (.lookup tM m k true))(hu:P.underlying tM=some (.map kt tF))(hk:P.underlying kt=some (.int .i64))(hz: ∀w:World,(zeroValue tF).run P w= .ok .nilFunc w)(h1:ev m= .map (some b))(h2:ev k= .int .i64 n)(hh:w.heap[b]? =some (.map acc clock))(ha:acc.toList.map (λx=>(x.key,x.val))=yT vw es): (execOp ev o).run P w= .ok (.value (match es.find? (λp=>decide (p.1=n)) with|some p=> .tuple #[.func (.func p.2) #[vw] #[],.bool true]|none=> .tuple #[.nilFunc,.bool false])) w:=by
 obtain ⟨q,g1,g2⟩:=NT (k:=n) (j:=0) ha;cases hf:es.find? (λp=>decide (p.1=n)) with
 |none=>
  rw [hf] at g2;have hq:q=none:=by cases q<;>simp_all
  subst hq;simp [execOp,ho.op,h1,h2,aeo,run_underlying hu,AT hh,BY hk (show MapKept.IsKey (.int .i64) (.int .i64 n) from rfl),IT hk g1,hz,OF]
 |some p=>
  rw [hf] at g2;obtain ⟨x,rfl,hx⟩: ∃x,q=some x/\x.2= .func (.func p.2) #[vw] #[]:=by cases q<;>simp_all
  obtain ⟨j,x⟩:=x;simp only at hx;subst hx;simp [execOp,ho.op,h1,h2,aeo,run_underlying hu,AT hh,BY hk (show MapKept.IsKey (.int .i64) (.int .i64 n) from rfl),IT hk g1,OF]
variable {r:MV}{K:Nat->St->Option MV}
theorem acw {s:Kn}{tM tF ti:TypeId}{rr:Nat->Nat}{oo:Nat->Oper}(hG:Good P c)(hD:Rg P c)(F:PB P c s tM tF ti oo)(h:bC c Z e st a w)(hK:acv c s st K=some r)(hQ: ∀n e' bG a' w',bC c Z e' bG a' w'->Trans Z.In e.φ w e'.φ w'->K n bG=some r->Q (xC n) a' w'):(Ko s rr oo).wp P Q a w:=by
 unfold acv at hK;unfold Ko;refine wp_seq (Bb hG hD s.A1 h hK ?_);intro n1 e1 cz a1 w1 h1 t1 qH;cases Nd:ad7 n1 0 with
 |false=>rw [Nd] at qH;cases qH
 |true=>
 rw [Nd,cond_true] at qH;have Nd:=sh Nd;subst Nd;refine wp_seq (Bb hG hD s.A2 h1 qH ?_);intro n2 e2 cj a2 w2 h2 t2 rq;have ⟨hc,DJ⟩:=ob rq;clear rq;have rq:=DJ;clear DJ;simp only [ad0] at hc;have ⟨Ik,hun⟩:=hc;clear hc;have Ik:=sh Ik;subst Ik;split at rq;rotate_left
 .cases rq
 rename_i k ls root off hf3 hf6;rw [af7] at rq;have s3:=h2.slot 3;have s6:=h2.slot 6;rw [hf3] at s3;rw [hf6] at s6;obtain ⟨s3a,s3b⟩:=s3;have Ff:dx (ax.p (.i .i64 k)::ls)=false:=rfl;have v3:a2.tmps.getD 3 undef= .pointer (some ⟨e2.B 3,0,none⟩):=by have:=s3a.1 rfl;rw [sN Ff] at this;exact this
 have v6:a2.tmps.getD 6 undef= .pointer (some ⟨e2.B root,off,none⟩):=s6;obtain ⟨arr,T,hh3,hl3⟩:=s3b.cells Ff;obtain ⟨u,us,hu1,hu2,hu3⟩:=hl3;have hk0:arr[0]? =some (.int .i64 k):=by obtain ⟨_,hu2⟩:=hu2;generalize u=vs at hu1 hu2;cases hu2;rw [<-ad5,hu1];rfl
 obtain ⟨kt,hum,huk⟩:=F.aoe;obtain ⟨_,_,hz⟩:=F.fnT;obtain ⟨IL,l1,l2,l3⟩:=F.tyL;obtain ⟨Ii,i1,i2,i3⟩:=F.tyi;have al:Tm a2 48 (λt=>a2.tmps.getD t undef):=⟨h2.defers.1,by rw [h2.size,F.n],λ_=>rfl⟩
 refine wp_seq (wp_region ?_);refine al.step rfl F.h8 aaD (v:= .map (some w2.heap.size)) (w':=w2.alloc (.map #[] 0)) (by simp [execOp,F.h8.op,RowKit.run_makeMap,OF]) (λa3 h3=> ?_);have hM0:af9 w2.heap.size (yT (.pointer (some ⟨e2.B root,off,none⟩)) []) w2 (w2.alloc (.map #[] 0)):=⟨aaS,λi hi=>nb w2 _ i hi,⟨rfl,rfl,rfl⟩, #[],0,fL w2 _,rfl⟩
 have hlen:=F.len;refine Yu (rest:=[28,29]) (es:=s.es) (pre:=[]) (i:=1) (t:=14) hum huk h3 v6 rfl aaD aah F.aof (λj hj=> ?_) F.nd hM0 (λa4 w4 σ4 h4 g1 g2 hM=> ?_)|>λh=>by rw [hlen] at h;exact h
 .rw [hlen] at hj;match j,hj with
  |0,_|1,_|2,_|3,_|4,_|5,_|6,_|7,_|8,_|9,_|10,_|11,_|12,_|13,_|14,_|15,_|16,_|17,_|18,_|19,_|20,_|21,_|22,_|23,_|24,_|25,_|26,_=>rfl
  |n+27,h=>exact absurd h aah
 have hM:af9 w2.heap.size (yT (.pointer (some ⟨e2.B root,off,none⟩)) s.es) w2 w4:=by simpa using hM
 have hs3:σ4 3= .pointer (some ⟨e2.B 3,0,none⟩):=by rw [g1 3 aaD];exact v3
 have asU:σ4 6= .pointer (some ⟨e2.B root,off,none⟩):=by rw [g1 6 aaD];exact v6
 have asV:σ4 13= .map (some w2.heap.size):=by rw [g1 13 aaD];rfl
 have asW:e2.B 3<w2.heap.size:=a8 hh3;have aoh:w4.heap[e2.B 3]? =some (.cells arr T (0,0)):=by rw [hM.qo _ asW];exact hh3
 obtain ⟨acc,clock,aoi,aid⟩:=hM.obj;have lm:bC c Z e2 cj a2 w4:=h2.called (Z':=λb=>w2.heap.size<=b) (λb hb=>h2.bI b hb) (λt cs ht hz=>by have:=sR h2 ht;omega) (λf o b ho hb hz=>by have:=sS h2 ho hb;omega) (φ':=e2.φ) ⟨.refl _,λb hb hl=>hM.qo b hl,λ_ _ _=>rfl,by rw [hM.size];omega,hM.rest⟩ (λb o u hu=>sC (h2.jU b o u hu) λhl=>hM.qo b hl);have xj:Trans Z.In e.φ w e2.φ w4:=(t1.trans t2).trans ⟨.refl _,λb hb hl=>hM.qo b hl,λ_ _ _=>rfl,by rw [hM.size];omega,hM.rest⟩;have hσ: ∀t,t∉s.gone->σ4 t=a2.tmps.getD t undef:=by
  intro t ht;rw [F.gone] at ht;simp only [ab3,ad2,or_false,not_or] at ht;rcases Nat.lt_or_ge t 14 with h|h
  .rw [g1 t h];simp [lp,eQ,ht]
  .rw [g2 t aah];simp [lp,eQ,ht]
 refine h4.mv F.Yc (v:= .map (some w2.heap.size)) (hv:=asV) λa5 h5=> ?_;refine h5.vd F.Ub λa5 h5=> ?_;refine wp_seq (wp_seq (wp_region ?_));refine h5.mv F.Wk λa5 h5=> ?_;refine h5.step rfl F.Yd aaD (jv F.Yd hG.ti l1 l2 (q:=0) l3 (by show σ4 3=_;exact hs3) _) (λa5 h5=> ?_);refine h5.cz (v:= .int .i64 k) F.ZU (rz F.ZU (j7 hG.ti i1 i2 i3 (by rw [cell_of aoh];exact hk0))) λa5 h5=> ?_;obtain ⟨fv,b,bF,ru,hb0⟩: ∃fv b,(∀σ:Nat->Value,σ 34= .map (some w2.heap.size)->σ 36= .int .i64 k->(execOp (ev σ) (oo 41)).run P w4= .ok (.value (.tuple #[fv,.bool b])) w4)/\ (b=true-> ∃f,(s.es.find? λp=>decide (p.1=k)).map (·.2)=some f/\fv= .func (.func f) #[.pointer (some ⟨e2.B root,off,none⟩)] #[])/\(b=false->(s.es.find? λp=>decide (p.1=k)).map (·.2)=none):=by
  cases hf:s.es.find? (λp=>decide (p.1=k)) with
  |none=>exact ⟨.nilFunc,false,λσ q1 q2=>by have:=Kp (ev:=ev σ) F.Uc hum huk hz q1 q2 aoi aid;rw [hf] at this;exact this,aaS,aaS⟩
  |some p=>exact ⟨_,true,λσ q1 q2=>by have:=Kp (ev:=ev σ) F.Uc hum huk hz q1 q2 aoi aid;rw [hf] at this;exact this,λ_=>⟨p.2,rfl,rfl⟩,aaS⟩
 refine h5.cz F.Uc (bF _ rfl rfl) λa5 h5=> ?_;refine h5.mv F.h42 λa5 h5=> ?_;refine h5.st F.Ye (qN F.Ye rfl (v:=fv) rfl) λa5 h5=> ?_;refine h5.st F.ZV (qN F.ZV rfl (v:= .bool b) rfl) λa5 h5=> ?_;refine h5.vd F.h45 λa5 h5=> ?_;refine h5.vd F.h46 λa5 h5=> ?_;refine wp_seq (wp_region ?_);refine h5.mv F.Wl λa5 h5=> ?_;refine h5.cond (b:=b) rfl ?_;cases b with
 |false=>refine wp_skip ?_;rw [hb0 rfl] at rq;have hs:bC c Z e2 cj a5 w4:=lm.aog hun h5.defers (by rw [h5.size,F.n]) (λt ht=>by rw [h5.get t,<-hσ t ht];rw [F.gone] at ht;simp only [ab3,ad2,or_false,not_or] at ht;simp [lp,eQ,ht]);exact Bb hG hD s.C hs rq λn e' bG a' w' g1 g2 g3=>hQ n e' bG a' w' g1 (xj.trans g2) g3
 |true=>
  obtain ⟨f,hf,rfl⟩:=ru rfl;rw [hf] at rq;simp only [l1] at rq;refine wp_region ?_;refine h5.mv F.VM λa5 h5=> ?_;have hs:bC c Z e2 cj a5 w4:=lm.aog hun h5.defers (by rw [h5.size,F.n]) (λt ht=>by rw [h5.get t,<-hσ t ht];rw [F.gone] at ht;simp only [ab3,ad2,or_false,not_or] at ht;simp [lp,eQ,ht]);have hm:w4.rangeAt (e2.B 3) 0 arr.toList:=by intro j v hj;rw [aei,cell_of aoh];simpa using hj
  have ⟨hL1,hL2⟩:=aM l1;have pi:ar e2 arr.toList (ax.p (.i .i64 k)::ls):=⟨u,us,hu1,hu2,hu3⟩
  have ⟨v,x,q1,q2,q3,DJ⟩:=fP (P:=P) (st:=cj) (s:= .skip) (hG.ti _ IL hL1) hL2 pi hm rq;refine s7 (i:=1) rfl F.Ud.guard (v:=v) (w':=w4) (by rw [h5.eval];refine rz F.Ud ?_;show (ad4 s.tL (σ4 3)).run P w4=_;rw [hs3];exact q1 w4 hm) ?_;show wpOps P #[oo 48,oo 49,oo 50] _ [2] (a5.put (oo 49).dst v) w4;rw [F.Ud.dst];obtain ⟨e6,st6,hs6,S1,hφ6⟩:=bV hs (.of q2 q3) DJ;have h6:=h5.put (d:=42) aaD v;obtain ⟨ts,hop⟩:=F.S6;split at S1;rotate_left
  .cases S1
  rename_i sg hsg;have Uc:(a5.put (some 42) v).eval (.tmp 41)= .func (.func f) #[.pointer (some ⟨e2.B root,off,none⟩)] #[]:=by rw [h6.eval];rfl
  have h60:(a5.put (some 42) v).eval (.tmp 6)= .pointer (some ⟨e2.B root,off,none⟩):=by rw [h6.eval];exact asU
  have hw:=(Jz (P:=P) (o:=oo 50) (cl:=⟨.value (.tmp 41), #[.tmp 6,.tmp 42],ts⟩) (Q:=Exit.then (s.C.wp P Q) Q) hG.fn (λhg ms x hx=>⟨f,hx,hg,hsg,by simp [execOp,hop.op,resolve,Uc,h60,aeb,invoke]⟩) hs6 (by rw [hop.dst];exact S1)).2;rw [wpOps_cons];refine wpOp_mono (K:=Out c Z (λst=>lu c s.C MV st K) r e6.φ w4) ?_ ?_
  .rintro a7 w7 ⟨e7,st7,h7,t7,hK7⟩;rw [hφ6] at t7;exact Bb hG hD s.C h7 hK7 λn e' bG a' w' g1 g2 g3=>hQ n e' bG a' w' g1 ((xj.trans t7).trans g2) g3
  .unfold wpOp;simp only [show (#[oo 48,oo 49,oo 50]:Array Oper)[2]? =some (oo 50) from rfl,ad8,hop.guard,if_true];exact .inl hw
end
noncomputable def aie (c:Ctx)(s:Kn)(fn:Func)(args:List MV):Option MV:=VH (λ_ st K=>acv c s st K) c [] none fn args
def db.asY {P:Program} {c c':Ctx}{g:Nat->List MV->Option MV}{n:Nat}{fn:Func}{s:Kn}{tM tF ti:TypeId}{rr:Nat->Nat}{oo:Nat->Oper}(h:db P c g)(hl:Eh c c')(hgg:c'.g=g)(lC:fw P c.ti)(ol:QK P c.ti)(Qj: ∀t k,c.fk t=some k->P.underlying t=some (.float k))(XK:z1 P c)(Pc:P.follows .mixedOrders=true)(Mq:sY P c)(hf:P.funcs[n]? =some fn)(hh:ou c' n fn []=true)(Fs: ∀f,c.key f=f)(mG:fn.body=some (Ko s rr oo))(F:PB P c' s tM tF ti oo):db P c (aK n (aie c' s fn) g):=by
 have hG:Good P c':=by
  refine ⟨by grind [hl.ti],by grind [hl.ti],λf ms r hr=> ?_,by grind [hl.fk],λt s hs=>XK t s ?_⟩
  .rw [hgg,hl.key] at hr;exact (h.all f ms r hr).jR hl
  .grind [wj,Ctx.tv,hl.mt,hl.ti]
 refine h.add (λf ms r hk hr=> ?_);rw [Fs] at hk;subst hk;simp only [ou,ad0,aea] at hh;obtain ⟨⟨⟨h1,h2⟩,h3⟩,h4⟩:=hh;have hD:=JU hG Pc (Mq.jR hl);refine (Ri (λb hb=>λh hK hQ=> ?_) hG hf h1 (by simp_all) (by simp_all) (by simp_all [hl.key]) aaS hr).jR hl.symm;rw [mG] at hb;cases hb;exact acw hG hD F h hK hQ
end
end Dn
