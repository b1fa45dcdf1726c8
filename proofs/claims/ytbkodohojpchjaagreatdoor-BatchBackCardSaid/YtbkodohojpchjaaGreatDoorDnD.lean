import Derived.Test.YtbkodohojpchjaaGreatDoorDnC
import Derived.Lib.SlTrimSet
import Derived.Lib.Bytealg
import Derived.Shelf.Strings.Split
import Derived.Shelf.Strings.SlTrimAscii
import Derived.Shelf.Strings.Runes
import Derived.Lib.IndexBytes
import Derived.Test.YtbkodohojpchjaaGreatDoorDnB
import Derived.Maps.RangeRun
import Derived.ScopeJumps
import Derived.LaidLaws
import Derived.Deep.DeepLaidRun
import Derived.Handed
import Derived.JoinedOf
import Derived.KernelRfl
/- How code runs. Conditions: none. -/
set_option linter.unusedSimpArgs false
set_option linter.unusedVariables false
open Option.some renaming injEq→bB,inj→afH
open List renaming range→sh,getElem?_eq_some_iff→aaC,drop_of_length_le→aaT,length_take→aaZ,all_eq_true→aa0,length_append→aa2,getElem?_drop→aa3,mem_cons→aba,getElem?_take→abi,eq_nil_of_length_eq_zero→abC,drop_drop→aci,drop_eq_getElem_cons→acv,getElem?_map→acw,getElem?_take_of_lt→acP,getElem?_eq_getElem→adl,getElem?_cons_zero→adx,length_map→adz,size_toArray→ad1,append_assoc→ad7,length_drop→aey,getElem_mem→aez,take_take→aeI,take_left→aeJ,map_cons→aeQ,take→aeZ,map_map→afe
open Bool renaming false_eq_true→AI,and_eq_true→aaV,not_false→adS,false_or→ad0,not_eq_true'→aed,eq_false_iff→aeh,not_true→aeM,true_and→aeV
open Go.Next renaming value→AS
open Go.Result renaming ok→AT
open Nat renaming le_of_ble_eq_true→By,ble→IT,le_refl→OF,eq_of_beq_eq_true→aaX,zero_add→aaY,succ_mul→aa4,beq→aa8,le_trans→abj,zero_le→abD,lt_of_lt_of_le→acb,ble_eq_true_of_le→adK,mul_le_mul_right→adR,add_comm→afd,add_mul→afi
open Go.Instr renaming loadAt→BY,sureAddr→adX
open Go.Value renaming bool→IN,pointer→No,ownBlock→abk,cells→abB,string→ab4,agg→adr,slice→aeA,int→ae0
open Go.World renaming block_lt_of_cell?→aar,cell?_of_block→adM
open Array renaming getElem?_eq_some_iff→aas,length_toList→aaS,replicate→abS,toList_inj→adv,getElem?_toList→adA,getElem?_append→adE
open Go.Code renaming region→aaR,seq→adm,wp_mono→aeg,rounds→aft
open Go.IntKind renaming wrap→aaU
open Go.Lib renaming countB→aaW,index→aa1,setCells→abu,size_eq→abQ,splitB→acn
open Prod.mk renaming injEq→aa9
open Classical renaming choose_spec→abv
open ByteArray renaming empty→abW
open Go.Proofs renaming enters_of→abZ
open Go.Region renaming wanted→acQ,ready→ad8
open Go.Deferred renaming ofValue→adu
open Go.Exit renaming inBlock→ady
open Go.Proofs.Any renaming strings_ContainsRune_ascii→adL
open Go.Value.pointer renaming injEq→adY
open Go.Proofs.Lays renaming n146→adZ,n160→afz,n151→afE
open Option renaming map_some→aeB
open Char renaming ofNat→aeK
open Go.Addr.mk renaming injEq→aeN
open Go.Addr renaming add_mid→ae8
namespace Dn
open Go
theorem jU {P:Program}{f:Nat}{fn:Func}{b:Code}{args:Array Value}{w:World}{R:Value->World->Prop}(eL:P.funcs[f]? =some fn)(Aj:(fn.name== "runtime.NumGoroutine")=false)(iN:fn.body=some b)
 (h:Calls P f args w λe W=> ∃v,e= .returned v/\R v W):cm P f args w R:=by
 have bA:(callFunc f args).run P w= .ok (.enter f args) w:=by
  have Ik: ¬fn.name= "runtime.NumGoroutine" :=by simpa using Aj
  simp [callFunc,eL,Ik,iN]
 unfold cm;rw [bA];exact h
def Jp (r:Nat->Nat)(o:Nat->Oper):Code:= .seq (.region (r 0) #[o 0] false) (.seq (.region (r 1) #[o 1,o 2,o 3,o 4] false) (.seq (.seq (.region (r 2) #[o 5,o 6] false) (.cond (.tmp 12) (.seq (.region (r 3) #[o 7,o 8] false) .ret) .skip)) (.seq (.seq (.region (r 4) #[o 9,o 10,o 11] false) (.block 0 (.loop (.seq (.seq (.region (r 5) #[o 12,o 13,o 14,o 15] false) (.cond (.tmp 19) .skip (.exit 0))) (.seq (.block 1 (.seq (.region (r 6) #[o 16,o 17,o 18,o 19,o 20,o 21] false) (.seq (.region (r 7) #[o 22,o 23,o 24,o 25] false) (.cond (.tmp 29) (.seq (.region (r 8) #[o 26,o 27,o 28,o 29,o 30] false) (.region (r 9) #[o 31,o 32,o 33] false)) .skip)))) (.region (r 10) #[o 34,o 35,o 36] false)))))) (.seq (.region (r 11) #[o 37,o 38,o 39,o 40] false) (.seq (.region (r 12) #[o 41,o 42,o 43,o 44] false) .ret)))))
structure ace (t el ti tb fu fi:Nat) (o:Nat->Oper):Prop where
 h0:ai (o 0) 4 (.assign (.const (.slice none 0 0)))
 h1:ai (o 1) 8 (.move (.tmp 0))
 h2:ai (o 2) 9 (.move (.tmp 1))
 h3:ai (o 3) 10 (.call {callee:= .value (.func fi),args:= #[.tmp 8,.tmp 9],argTypes:= #[t,fu]})
 h4:ai (o 4) 5 (.assign (.tmp 10))
 h5:ai (o 5) 11 (.move (.tmp 5))
 h6:ai (o 6) 12 (.binOp .eql ti (.tmp 11) (.const (.int .i64 (-1))) ti)
 h7:ai (o 7) 13 (.move (.tmp 0))
 h8:ai (o 8) 4 (.assign (.tmp 13))
 h9:ai (o 9) 14 (.move (.tmp 5))
 wg:ai (o 10) 15 (.binOp .add ti (.tmp 14) (.const (.int .i64 1)) ti)
 zt:ai (o 11) 6 (.assign (.tmp 15))
 ER:ai (o 12) 16 (.move (.tmp 6))
 Dp:ai (o 13) 17 (.move (.tmp 0))
 Dq:ai (o 14) 18 (.call {callee:= .builtin .len,args:= #[.tmp 17],argTypes:= #[t]})
 Dr:ai (o 15) 19 (.binOp .lss ti (.tmp 16) (.tmp 18) ti)
 Bl:ai (o 16) 22 (.move (.tmp 0))
 DX:ai (o 17) 23 (.move (.tmp 6))
 Fl:ai (o 18) 24 (.indexAddr t (.tmp 22) (.tmp 23))
 HL:ai (o 19) 25 (.load el (.tmp 24))
 Lr:ai (o 20) 7 (.alloc el)
 Fm:fN (o 21) (.store el (.tmp 7) (.tmp 25))
 Fo:ai (o 22) 26 (.move (.tmp 1))
 KW:ai (o 23) 27 (.load el (.tmp 7))
 KX:ai (o 24) 28 (.call {callee:= .value (.tmp 26),args:= #[.tmp 27],argTypes:= #[el]})
 KY:ai (o 25) 29 (.unOp .not tb (.tmp 28))
 Ol:ai (o 26) 30 (.move (.tmp 0))
 Qj:ai (o 27) 31 (.move (.tmp 5))
 Rl:ai (o 28) 32 (.load el (.tmp 7))
 Rm:ai (o 29) 33 (.indexAddr t (.tmp 30) (.tmp 31))
 Om:fN (o 30) (.store el (.tmp 33) (.tmp 32))
 Pe:ai (o 31) 34 (.move (.tmp 5))
 Pf:ai (o 32) 35 (.binOp .add ti (.tmp 34) (.const (.int .i64 1)) ti)
 Pg:ai (o 33) 5 (.assign (.tmp 35))
 Qk:ai (o 34) 20 (.move (.tmp 6))
 Rn:ai (o 35) 21 (.binOp .add ti (.tmp 20) (.const (.int .i64 1)) ti)
 Sx:ai (o 36) 6 (.assign (.tmp 21))
 Ro:ai (o 37) 36 (.move (.tmp 0))
 Sy:ai (o 38) 37 (.move (.tmp 5))
 Zd:ai (o 39) 38 (.slice t (.tmp 36) (some (.tmp 37)) none none)
 Ze:fN (o 40) (.call {callee:= .builtin .clear,args:= #[.tmp 38],argTypes:= #[t]})
 Zf:ai (o 41) 39 (.move (.tmp 0))
 Zg:ai (o 42) 40 (.move (.tmp 5))
 Zh:ai (o 43) 41 (.slice t (.tmp 39) none (some (.tmp 40)) none)
 Zj:ai (o 44) 4 (.assign (.tmp 41))
structure Zz (P:Program) (f t ti tb fu fi el:Nat) (fn:Func) (r:Nat->Nat) (o:Nat->Oper):Prop where
 pos:P.funcs[f]? =some fn
 name:(fn.name== "runtime.NumGoroutine")=false
 tmps:fn.ntmps=42
 res:fn.results= #[.tmp 4]
 body:fn.body=some (Jp r o)
 ops:ace t el ti tb fu fi o
 vK:P.underlying t=some (.slice el)
section
variable {P:Program}{c:Ctx}{f fi t ti tb fu el:Nat}{fn fni:Func}{r ri:Nat->Nat}{o oi:Nat->Oper}{E:TI}{cp g0 g:Nat}{ad:Option Addr}{ob:Option Nat}{w W W2:World}{lb:Array Value}{S:Type}{Inv:S->(Nat->Prop)->Ph->World->Prop}{step:S->MV->Option (Bool×S)}{Z0 Z:Nat->Prop} {φ0 φ:Ph}{s:S}
theorem BH.move (hp:xK P c g lb Inv step)(hW:BH c ob Inv Z0 φ0 w s Z φ W)(nM:W.heap.size<=W2.heap.size)(jr: ∀b,b<W.heap.size->ob≠some b->W2.heap[b]? =W.heap[b]?)(uV:Rest W W2)(hnz: ∀b,ob=some b-> ¬Z b): BH c ob Inv Z0 φ0 w s (λb=>(Z b/\b<W.heap.size)\/W2.heap.size<=b) φ W2:=by
 have hws:=hW.tr.size;refine ⟨hp.mono (hp.frame hW.inv nM λb hz hb=>jr b hb (λe=>hnz b e hz)) λb hb=> .inl hb,λb hb=> .inr hb,λb hb=> ?_,λb off v hv=> ?_,?_,hW.free⟩
 ·rcases hb with hb|hb
  ·exact hW.sub b hb.1
  ·exact .inr (by omega)
 ·have h1:=hW.iK b off v hv;have dO:=aar W _ h1;have df:ob≠some b:=by intro e;rw [hW.free b off e] at hv;cases hv
  rw [adM (jr b dO df)];exact h1
 ·refine hW.tr.trans ⟨.refl _,λb hb dO=> ?_,λ_ _ _=>rfl,nM,uV⟩;exact jr b dO (λe=>hb (.inr e))
structure aiD (c:Ctx) (sz n cp:Nat) (cells:List Value) (cT:Array Value) (φ:Ph) (i j:Nat) (ys:List MV):Prop where
 size:cT.size=cp *sz
 done:aP c.key φ sz (cT.toList.take (i *sz)) ys
 len:ys.length=i
 rest:(cT.toList.take (n *sz)).drop (j *sz)=cells.drop (j *sz)
def acf (c:Ctx)(ob:Option Nat){S:Type}(Inv:S->(Nat->Prop)->Ph->World->Prop)(step:S->MV->Option (Bool×S))(Z0:Nat->Prop) (φ0:Ph)(w:World)(xs ys:List MV) (s0 s':S)(v:Value)(W:World):Prop:=∃Z φ,(∀b,ob=some b->W.heap[b]? =w.heap[b]?)/\((v= .int .i64 (-1)/\ys=xs/\BH c ob Inv Z0 φ0 w s' Z φ W)\/ ∃k,∃hk:k<xs.length,∃sk,v= .int .i64 (k:Int)/\na step s0 (xs.take (k+1))=some (xs.take k,sk)/\BH c ob Inv Z0 φ0 w sk Z φ W)
theorem Qq (hf:Zz P f t ti tb fu fi el fn r o)(hfi:Zt P fi t ti el fni ri oi)(hp:xK P c g lb Inv step)(hT:fZ P c.ti)(hE:c.tv el=some E)(dB:E.st=true)(eL:0<E.size){xs:List MV}{cells:List Value}{cT:Array Value} {s0 s':S}{ys:List MV}(Jc: ∀x∈xs,∃ms,x= .agg ms)(Lh:0<xs.length->ad=some ⟨g0,0,none⟩/\ob=some g0/\w.heap[g0]? =some (.cells cT el (0,0))/\cT.toList.take (xs.length *E.size)=cells/\xs.length<=cp/\cT.size=cp *E.size)(Xa: ∀b,ob=some b-> ¬Z0 b/\b<w.heap.size/\ ∀off,φ0 b off=none)(gJ:aP c.key φ0 E.size cells xs)(SD:xs.length<2^63)(hinv:Inv s0 Z0 φ0 w)(mL: ∀b,w.heap.size<=b->Z0 b)(iu:mb φ0 w)(hd:na step s0 xs=some (ys,s')): Calls P f #[.slice ad xs.length cp,.func (.func g) #[] lb] w λe W=> ∃v,e= .returned v/\ ∃Z φ,BH c ob Inv Z0 φ0 w s' Z φ W/\ ((v= .slice ad xs.length cp/\ys=xs/\ ∀b,ob=some b->W.heap[b]? =w.heap[b]?)\/ (0<xs.length/\v= .slice (some ⟨g0,0,none⟩) ys.length cp/\ ∃mM,W.heap[g0]? =some (.cells mM el (0,0))/\mM.size=cp *E.size/\aP c.key φ E.size (mM.toList.take (ys.length *E.size)) ys)):=by
 obtain ⟨lz,od⟩:=aV hE;obtain ⟨ie,z,qw,vL,WY,VS,G9⟩:=iA (hT _ E lz) od;obtain ⟨ie2,z2,Zs,XK,hzr⟩:=Cw hE hT;rw [qw] at Zs;cases Zs;rw [VS] at XK;cases XK;have hz1: ∀v∈z.cells.toList,v.oneCell'=true:=(hzr (mN c.key λ_ _=>none)).cells;have aiE:cm P fi #[.slice ad xs.length cp,.func (.func g) #[] lb] w (acf c ob Inv step Z0 φ0 w xs ys s0 s'):=by
  refine jU hfi.pos hfi.name hfi.body ((Zu hfi hp hT hE dB Jc (λh=>⟨(Lh h).1,(Lh h).2.1,(Lh h).2.2.1,(Lh h).2.2.2.1⟩) Xa gJ SD hinv mL iu hd).mono ?_);rintro e W ⟨Z,φ,h1,h2⟩;rcases h2 with ⟨rfl,h3,h4⟩|⟨k,hk,sk,rfl,h3,h4⟩
  ·exact ⟨_,rfl,Z,φ,h1,.inl ⟨rfl,h3,h4⟩⟩
  ·exact ⟨_,rfl,Z,φ,h1,.inr ⟨k,hk,sk,rfl,h3,h4⟩⟩
 refine calls_of_wp hf.pos hf.body ?_;rw [hf.tmps];generalize Qp:(λ(e:Ending) (W:World)=> ∃v,e= .returned v/\ ∃Z φ,BH c ob Inv Z0 φ0 w s' Z φ W/\ ((v= .slice ad xs.length cp/\ys=xs/\ ∀b,ob=some b->W.heap[b]? =w.heap[b]?)\/ (0<xs.length/\v= .slice (some ⟨g0,0,none⟩) ys.length cp/\ ∃mM,W.heap[g0]? =some (.cells mM el (0,0))/\mM.size=cp *E.size/\aP c.key φ E.size (mM.toList.take (ys.length *E.size)) ys)))=afB;have key: ∀a:Act,Tm a 42 (oV (oV (λ_=>undef) 0 (.slice ad xs.length cp)) 1 (.func (.func g) #[] lb))->(Jp r o).wp P (bodyPost P fn afB) a w:=by
  intro a af;unfold Jp;refine wp_seq (wp_region ?_);rw [show sh (#[o 0]:Array Oper).size=[0] from rfl];refine af.step (v:= .slice none 0 0) rfl hf.ops.h0 (by decide) (bD hf.ops.h0 _) (λa af=> ?_);refine wp_seq (wp_region ?_);rw [show sh (#[o 1,o 2,o 3,o 4]:Array Oper).size=[0,1,2,3] from rfl];refine af.step (v:= .slice ad xs.length cp) rfl hf.ops.h1 (by decide) (az hf.ops.h1 _) (λa af=> ?_);refine af.step (v:= .func (.func g) #[] lb) rfl hf.ops.h2 (by decide) (az hf.ops.h2 _) (λa af=> ?_);refine af.call rfl hf.ops.h3 (by decide) (acd hf.ops.h3 rfl rfl rfl _) aiE ?_;clear aiE;rintro v W1 a1 ⟨Z,φ,BG,mP⟩ aiF;clear af;refine aiF.step (v:=v) rfl hf.ops.h4 (by decide) (bD hf.ops.h4 _) (λa2 DY=> ?_);clear aiF;refine wp_seq (wp_seq (wp_region ?_));rw [show sh (#[o 5,o 6]:Array Oper).size=[0,1] from rfl];refine DY.step (v:=v) rfl hf.ops.h5 (by decide) (az hf.ops.h5 _) (λa3 He=> ?_);clear DY;rcases mP with ⟨rfl,rfl,hW⟩|⟨k,hk,sk,rfl,Hd,hW⟩
  ·refine He.step (v:= .bool (decide ((-1:Int)= -1))) rfl hf.ops.h6 (by decide) (nA hf.ops.h6 rfl rfl _) (λa af=> ?_);refine af.cond (b:=true) (by show IN (decide ((-1:Int)= -1))=_;rfl) ?_;simp only [if_true];refine wp_seq (wp_region ?_);rw [show sh (#[o 7,o 8]:Array Oper).size=[0,1] from rfl];refine af.step (v:= .slice ad ys.length cp) rfl hf.ops.h7 (by decide) (az hf.ops.h7 _) (λa af=> ?_);refine af.step (v:= .slice ad ys.length cp) rfl hf.ops.h8 (by decide) (bD hf.ops.h8 _) (λa af=> ?_);refine wp_ret ?_;refine Ow hf.res af (v:= .slice ad ys.length cp) rfl ?_;rw [<-Qp];exact ⟨_,rfl,Z,φ,hW,.inl ⟨rfl,rfl,BG⟩⟩
  ·refine He.step (v:= .bool (decide ((k:Int)= -1))) rfl hf.ops.h6 (by decide) (nA hf.ops.h6 rfl rfl _) (λa af=> ?_);refine af.cond (b:=false) (by show IN (decide ((k:Int)= -1))=_;rw [decide_eq_false (by omega)]) ?_;simp only [AI,if_false];refine wp_skip ?_;refine wp_seq (wp_seq (wp_region ?_));rw [show sh (#[o 9,o 10,o 11]:Array Oper).size=[0,1,2] from rfl];refine af.step (v:= .int .i64 (k:Int)) rfl hf.ops.h9 (by decide) (az hf.ops.h9 _) (λa af=> ?_);refine af.step (v:= .int .i64 ((k+1:Nat):Int)) rfl hf.ops.wg (by decide) (iP (q:=1) hf.ops.wg rfl rfl (by omega) _) (λa af=> ?_);refine af.step (v:= .int .i64 ((k+1:Nat):Int)) rfl hf.ops.zt (by decide) (bD hf.ops.zt _) (λa4 acg=> ?_);clear He af;obtain ⟨Zx,Vr,ct,a8,aiG,amC⟩:=Lh (by omega);have Pc:=Xa g0 Vr;have aiH: ∀b,ob=some b->b=g0:=λb hb=>by rw [Vr] at hb;exact (afH hb).symm
   have hmul: ∀{a b:Nat},a<=b->a *E.size<=b *E.size:=λh=>adR _ h;refine wp_block (wp_loop (λa W=> ∃σ,Tm a 42 σ/\σ 0= .slice (some ⟨g0,0,none⟩) xs.length cp/\σ 1= .func (.func g) #[] lb/\ ∃i j:Nat,i<j/\j<=xs.length/\σ 5= .int .i64 (i:Int)/\σ 6= .int .i64 (j:Int)/\ ∃mM sj Z φ yj,W.heap[g0]? =some (.cells mM el (0,0))/\na step s0 (xs.take j)=some (yj,sj)/\BH c ob Inv Z0 φ0 w sj Z φ W/\aiD c E.size xs.length cp cells mM φ i j yj) (λa W=>match a.tmps.getD 6 undef with| .int _ k=>xs.length-k.toNat|_=>0) ?_ ?_)
   ·refine ⟨_,acg,by show aeA ad xs.length cp=_;rw [Zx],rfl,k,k+1,by omega,by omega,rfl,rfl,cT,sk,Z,φ,xs.take k,(BG g0 Vr).trans ct,Hd,hW,⟨amC,?_,by rw [aaZ];omega,by rw [a8]⟩⟩;have h1:=(gJ.mono hW.tr.ph).take k;rw [<-a8,aeI] at h1;have h2:Nat.min (k *E.size) (xs.length *E.size)=k *E.size:=Nat.min_eq_left (hmul (by omega));rw [show min (k *E.size) (xs.length *E.size)=k *E.size from h2] at h1;exact h1
   ·clear BG Hd hW acg ct;rintro a W ⟨σ,af,h0,h1,i,j,hij,hjn,h5,h6,mM,sj,Z',φ',yj,BG,hdj,hW,hR⟩;have hm6:(match a.tmps.getD 6 undef with| .int _ k=>xs.length-k.toNat|_=>0)=xs.length-j:=by rw [af.get 6,h6];simp
    rw [hm6];clear hm6;have hnz: ∀b,ob=some b-> ¬Z' b:=λb hb hz=>by
     have:=aiH b hb;subst this;rcases hW.sub _ hz with h|h
     ·exact Pc.1 h
     ·have:=Pc.2.1;omega
    refine wp_seq (wp_seq (wp_region ?_));rw [show sh (#[o 12,o 13,o 14,o 15]:Array Oper).size=[0,1,2,3] from rfl];refine af.step (v:= .int .i64 (j:Int)) rfl hf.ops.ER (by decide) ((az hf.ops.ER _).trans (by show AT (AS (σ 6)) W=_;rw [h6])) (λa af=> ?_);refine af.step (v:= .slice (some ⟨g0,0,none⟩) xs.length cp) rfl hf.ops.Dp (by decide) ((az hf.ops.Dp _).trans (by show AT (AS (σ 0)) W=_;rw [h0])) (λa af=> ?_);refine af.step (v:= .int .i64 ((xs.length:Nat):Int)) rfl hf.ops.Dq (by decide) (j7 hf.ops.Dq hf.vK rfl _) (λa af=> ?_);refine af.step (v:= .bool (decide ((j:Int)<(xs.length:Int)))) rfl hf.ops.Dr (by decide) (Ap hf.ops.Dr rfl rfl _) (λa af=> ?_);by_cases dO:j<xs.length;rotate_left
    ·
     refine af.cond (b:=false) (by show IN (decide ((j:Int)<(xs.length:Int)))=_;rw [decide_eq_false (by omega)]) ?_;simp only [AI,if_false];refine wp_exit ?_;have amD:j=xs.length:=by omega
     subst amD;rw [List.take_length,hd] at hdj;simp only [bB,aa9] at hdj;obtain ⟨rfl,rfl⟩:=hdj;have hlen:=hR.len;have nM:=hR.size;have zn:i *E.size+(xs.length-i) *E.size<=mM.size:=by rw [<-afi,nM];exact hmul (by omega)
     have uo:i *E.size<=xs.length *E.size:=hmul (by omega);have PD:xs.length *E.size<=cp *E.size:=hmul aiG;obtain ⟨zs,hzl,aiI⟩:=An (P:=P) (w:=W) (t:=t) (ty:=(o 40).type) (g:=g0) (off:=i *E.size) (n:=xs.length-i) (c:=cp-i) hf.vK qw VS G9 hz1 BG (by omega) zn;have TR:g0<W.heap.size:=acb Pc.2.1 hW.tr.size;obtain ⟨W3,Uj⟩: ∃W3,W3=W.setRow g0 (mM.toList.take (i *E.size)++zs++mM.toList.drop (i *E.size+zs.length)).toArray:=⟨_,rfl⟩
     rw [<-Uj] at aiI;have B9:=hW.move hp (W2:=W3) (by rw [Uj];simp [World.setRow]) (λb _ df=>by rw [Uj];exact setRow_other _ _ _ _ (λe=>df (by rw [Vr,e]))) (by rw [Uj];exact .setRow _ _ _) hnz;show Code.wp P (adm _ _) _ a W;refine wp_seq (wp_region ?_);rw [show sh (#[o 37,o 38,o 39,o 40]:Array Oper).size=[0,1,2,3] from rfl];refine af.step (v:= .slice (some ⟨g0,0,none⟩) xs.length cp) rfl hf.ops.Ro (by decide) ((az hf.ops.Ro _).trans (by show AT (AS (σ 0)) W=_;rw [h0])) (λa af=> ?_);refine af.step (v:= .int .i64 (i:Int)) rfl hf.ops.Sy (by decide) ((az hf.ops.Sy _).trans (by show AT (AS (σ 5)) W=_;rw [h5])) (λa af=> ?_);refine af.step rfl hf.ops.Zd (by decide) (om hf.ops.Zd hf.vK qw vL rfl rfl (by omega) (by omega) _) (λa af=> ?_);refine af.ad3 (v:= .tuple #[]) rfl hf.ops.Ze (Uf hf.ops.Ze rfl aiI) ?_;refine wp_seq (wp_region ?_);rw [show sh (#[o 41,o 42,o 43,o 44]:Array Oper).size=[0,1,2,3] from rfl];refine af.step (v:= .slice (some ⟨g0,0,none⟩) xs.length cp) rfl hf.ops.Zf (by decide) ((az hf.ops.Zf _).trans (by show AT (AS (σ 0)) W3=_;rw [h0])) (λa af=> ?_);refine af.step (v:= .int .i64 (i:Int)) rfl hf.ops.Zg (by decide) ((az hf.ops.Zg _).trans (by show AT (AS (σ 5)) W3=_;rw [h5])) (λa af=> ?_);refine af.step (v:= .slice (some ⟨g0,0,none⟩) i cp) rfl hf.ops.Zh (by decide) (DV hf.ops.Zh hf.vK qw vL rfl rfl (by omega) _) (λa af=> ?_);refine af.step (v:= .slice (some ⟨g0,0,none⟩) i cp) rfl hf.ops.Zj (by decide) (bD hf.ops.Zj _) (λa af=> ?_);refine wp_ret ?_;refine Ow hf.res af (v:= .slice (some ⟨g0,0,none⟩) i cp) rfl ?_;rw [<-Qp];have oe:mM.toList.length=cp *E.size:=by rw [aaS,nM]
     refine ⟨_,rfl,_,φ',B9,.inr ⟨by omega,by rw [hlen],_,by rw [Uj];exact eH _ BG,?_,?_⟩⟩
     ·simp only [ad1,aa2,aaZ,aey,oe,hzl];have:(xs.length-i) *E.size+i *E.size=xs.length *E.size:=by rw [<-afi];congr 1;omega
      omega
     ·rw [hlen,ad7,List.take_append_of_le_length (by rw [aaZ,oe];omega),aeI,Nat.min_self];exact hR.done
    ·refine af.cond (b:=true) (by show IN (decide ((j:Int)<(xs.length:Int)))=_;rw [decide_eq_true (by omega)]) ?_;simp only [if_true];refine wp_skip ?_;obtain ⟨yk,sk',b,sk2,e1,e2,e3⟩:=T7 hd dO;rw [hdj] at e1;simp only [bB,aa9] at e1;obtain ⟨rfl,rfl⟩:=e1;have Zy:=gJ.mono hW.tr.ph;obtain ⟨hl,et⟩:=Qo Zy dO;obtain ⟨M0,G7⟩: ∃M0,M0=(cells.drop (j *E.size)).take E.size:=⟨_,rfl⟩
     rw [<-G7] at hl et;have oe:mM.toList.length=cp *E.size:=by rw [aaS,hR.size]
     have hj1:j *E.size+E.size<=xs.length *E.size:=by rw [<-aa4];exact hmul dO
     have PD:xs.length *E.size<=cp *E.size:=hmul aiG;have uR:i *E.size+E.size<=j *E.size:=by rw [<-aa4];exact hmul hij
     have SE:W.rangeAt g0 (j *E.size) M0:=by
      intro q v hq;have hql:q<E.size:=by have:=(aaC.1 hq).1;omega
      rw [cell_of BG,<-adA];rw [G7,acP hql,<-hR.rest,aa3,acP (by omega)] at hq;exact hq
     have ic: ∀u∈M0,u.oneCell'=true:=λu hu=>gJ.Ac u (by rw [G7] at hu;exact List.mem_of_mem_drop (List.mem_of_mem_take hu));obtain ⟨ms,HJ⟩:=Jc _ (aez dO);have Ss:cV c.key φ' (.agg M0.toArray) xs[j]:=Jo et HJ;have Uk:(adr M0.toArray).cells.toList=M0:=by simp [abB]
     refine wp_seq (wp_block ?_);refine wp_seq (wp_region ?_);rw [show sh (#[o 16,o 17,o 18,o 19,o 20,o 21]:Array Oper).size=[0,1,2,3,4,5] from rfl];refine af.step (v:= .slice (some ⟨g0,0,none⟩) xs.length cp) rfl hf.ops.Bl (by decide) ((az hf.ops.Bl _).trans (by show AT (AS (σ 0)) W=_;rw [h0])) (λa af=> ?_);refine af.step (v:= .int .i64 (j:Int)) rfl hf.ops.DX (by decide) ((az hf.ops.DX _).trans (by show AT (AS (σ 6)) W=_;rw [h6])) (λa af=> ?_);refine af.step rfl hf.ops.Fl (by decide) (Ot hf.ops.Fl hf.vK qw vL rfl rfl dO _) (λa af=> ?_);refine af.step rfl hf.ops.HL (by decide) (HN hf.ops.HL (hT _ E lz) od dB hl rfl SE) (λa af=> ?_);refine af.step rfl hf.ops.Lr (by decide) (HO hf.ops.Lr qw VS _) (λa af=> ?_);have Qr:(W.alloc (.cells z.cells el)).heap[W.heap.size]? =some (.cells z.cells el (0,0)):=gj W _;refine af.wG rfl hf.ops.Fm (xN (v:= .agg M0.toArray) (off:=0) hf.ops.Fm (hT _ E lz) od rfl rfl (by rw [Uk,hl]) (by rw [Uk];exact ic) Qr (by rw [G9];omega)) ?_;rw [Uk];obtain ⟨W2,Cy⟩: ∃W2,W2=(W.alloc (.cells z.cells el)).setRow W.heap.size (z.cells.toList.take 0++M0++z.cells.toList.drop (0+E.size)).toArray:=⟨_,rfl⟩
     rw [<-Cy];have Lf:W2.heap.size=W.heap.size+1:=by rw [Cy,setRow_size];simp
     have hold: ∀b,b<W.heap.size->W2.heap[b]? =W.heap[b]? :=λb hb=>by rw [Cy,setRow_other _ _ _ _ (by omega)];exact (cL.alloc W z.cells el).pF b hb
     have ad5:W2.heap[W.heap.size]? =some (.cells M0.toArray el (0,0)):=by
      rw [Cy,eH _ Qr];congr 3;have:z.cells.toList.drop (0+E.size)=[]:=by rw [aaY,aaT];rw [aaS,G9];exact OF _
      rw [this];simp
     have Jm:Rest W W2:=by rw [Cy];exact (Rest.alloc W z.cells el).trans (.setRow _ _ _)
     have TR:g0<W.heap.size:=acb Pc.2.1 hW.tr.size;have B9:=hW.move hp (W2:=W2) (by omega) (λb hb _=>hold b hb) Jm hnz;have afC: ∀b,ob=some b-> ¬((Z' b/\b<W.heap.size)\/W2.heap.size<=b):=by
      intro b hb;have:=aiH b hb;subst this;rintro (h|h)
      ·exact hnz b hb h.1
      ·omega
     have ad6: ∀{W:World} {b:Nat},W.heap[b]? =some (.cells M0.toArray el (0,0))->W.rangeAt b 0 M0:=by intro W b hb q v hq;rw [cell_of hb,aaY];simpa using hq
     refine wp_seq (wp_region ?_);rw [show sh (#[o 22,o 23,o 24,o 25]:Array Oper).size=[0,1,2,3] from rfl];refine af.step (v:= .func (.func g) #[] lb) rfl hf.ops.Fo (by decide) ((az hf.ops.Fo _).trans (by show AT (AS (σ 1)) W2=_;rw [h1])) (λa af=> ?_);refine af.step rfl hf.ops.KW (by decide) (HN hf.ops.KW (hT _ E lz) od dB hl rfl (ad6 ad5)) (λa af=> ?_);refine af.call rfl hf.ops.KX (by decide) (Ou hf.ops.KX rfl rfl _) (hp.call B9.inv B9.new B9.iK Ss e2) ?_;rintro v W3 a ⟨rfl,φ3,t1,t2,t3⟩ af;have ZA:W3.heap[g0]? =some (.cells mM el (0,0)):=(t1.heap g0 (afC g0 Vr) (by omega)).trans ((hold g0 TR).trans BG);have aiJ:W3.heap[W.heap.size]? =some (.cells M0.toArray el (0,0)):=(t1.heap _ (by rintro (h|h)<;>omega) (by omega)).trans ad5;have Uj:BH c ob Inv Z0 φ0 w sk2 (λb=>(Z' b/\b<W.heap.size)\/W2.heap.size<=b) φ3 W3:=⟨t3,λb hb=>B9.new b (abj t1.size hb),B9.sub,t2,B9.tr.trans (t1.sup λb hb=> .inl (B9.sub b hb)),λb off hb=>by rw [t1.free b off (afC b hb)];exact B9.free b off hb⟩
     refine af.step (v:= .bool (!b)) rfl hf.ops.KY (by decide) (DU hf.ops.KY rfl _) (λa af=> ?_);cases b with
     |true=>
      refine af.cond (b:=false) rfl ?_;simp only [AI,if_false];refine wp_skip ?_;show Code.wp P (aaR (r 10) #[o 34,o 35,o 36] false) _ a W3;refine wp_region ?_;rw [show sh (#[o 34,o 35,o 36]:Array Oper).size=[0,1,2] from rfl];refine af.step (v:= .int .i64 (j:Int)) rfl hf.ops.Qk (by decide) ((az hf.ops.Qk _).trans (by show AT (AS (σ 6)) W3=_;rw [h6])) (λa af=> ?_);refine af.step (v:= .int .i64 ((j+1:Nat):Int)) rfl hf.ops.Rn (by decide) (iP (q:=1) hf.ops.Rn rfl rfl (by omega) _) (λa af=> ?_);refine af.step (v:= .int .i64 ((j+1:Nat):Int)) rfl hf.ops.Sx (by decide) (bD hf.ops.Sx _) (λa af=> ?_);refine ⟨⟨_,af,h0,h1,i,j+1,by omega,by omega,h5,rfl,mM,sk2,_,φ3,yj,ZA,by rw [e3];rfl,Uj,⟨hR.size,hR.done.mono t1.ph,hR.len,?_⟩⟩,?_⟩
      ·rw [show (j+1) *E.size=j *E.size+E.size from aa4 _ _,<-aci,<-aci,hR.rest]
      ·have:a.tmps.getD 6 undef= .int .i64 ((j+1:Nat):Int):=by rw [af.get 6];rfl
       rw [this];simp;omega
     |false=>
      refine af.cond (b:=true) rfl ?_;simp only [if_true];refine wp_seq (wp_region ?_);rw [show sh (#[o 26,o 27,o 28,o 29,o 30]:Array Oper).size=[0,1,2,3,4] from rfl];refine af.step (v:= .slice (some ⟨g0,0,none⟩) xs.length cp) rfl hf.ops.Ol (by decide) ((az hf.ops.Ol _).trans (by show AT (AS (σ 0)) W3=_;rw [h0])) (λa af=> ?_);refine af.step (v:= .int .i64 (i:Int)) rfl hf.ops.Qj (by decide) ((az hf.ops.Qj _).trans (by show AT (AS (σ 5)) W3=_;rw [h5])) (λa af=> ?_);refine af.step rfl hf.ops.Rl (by decide) (HN hf.ops.Rl (hT _ E lz) od dB hl rfl (ad6 aiJ)) (λa af=> ?_);refine af.step rfl hf.ops.Rm (by decide) (Ot hf.ops.Rm hf.vK qw vL rfl rfl (by omega) _) (λa af=> ?_);refine af.wG rfl hf.ops.Om (xN (v:= .agg M0.toArray) (off:=i *E.size) hf.ops.Om (hT _ E lz) od rfl rfl (by rw [Uk,hl]) (by rw [Uk];exact ic) ZA (by rw [hR.size];omega)) ?_;rw [Uk];obtain ⟨W4,ZB⟩: ∃W4,W4=W3.setRow g0 (mM.toList.take (i *E.size)++M0++mM.toList.drop (i *E.size+E.size)).toArray:=⟨_,rfl⟩
      rw [<-ZB];have afD:=Uj.move hp (W2:=W4) (by rw [ZB,setRow_size];exact OF _) (λb _ df=>by rw [ZB];exact setRow_other _ _ _ _ (λe=>df (by rw [Vr,e]))) (by rw [ZB];exact .setRow _ _ _) afC;refine wp_region ?_;rw [show sh (#[o 31,o 32,o 33]:Array Oper).size=[0,1,2] from rfl];refine af.step (v:= .int .i64 (i:Int)) rfl hf.ops.Pe (by decide) ((az hf.ops.Pe _).trans (by show AT (AS (σ 5)) W4=_;rw [h5])) (λa af=> ?_);refine af.step (v:= .int .i64 ((i+1:Nat):Int)) rfl hf.ops.Pf (by decide) (iP (q:=1) hf.ops.Pf rfl rfl (by omega) _) (λa af=> ?_);refine af.step (v:= .int .i64 ((i+1:Nat):Int)) rfl hf.ops.Pg (by decide) (bD hf.ops.Pg _) (λa af=> ?_);show Code.wp P (aaR (r 10) #[o 34,o 35,o 36] false) _ a W4;refine wp_region ?_;rw [show sh (#[o 34,o 35,o 36]:Array Oper).size=[0,1,2] from rfl];refine af.step (v:= .int .i64 (j:Int)) rfl hf.ops.Qk (by decide) ((az hf.ops.Qk _).trans (by show AT (AS (σ 6)) W4=_;rw [h6])) (λa af=> ?_);refine af.step (v:= .int .i64 ((j+1:Nat):Int)) rfl hf.ops.Rn (by decide) (iP (q:=1) hf.ops.Rn rfl rfl (by omega) _) (λa af=> ?_);refine af.step (v:= .int .i64 ((j+1:Nat):Int)) rfl hf.ops.Sx (by decide) (bD hf.ops.Sx _) (λa af=> ?_);refine ⟨⟨_,af,h0,h1,i+1,j+1,by omega,by omega,rfl,rfl,_,sk2,_,φ3,yj++[xs[j]],by rw [ZB];exact eH _ ZA,by rw [e3];rfl,afD,⟨?_,?_,by rw [aa2,hR.len];rfl,?_⟩⟩,?_⟩
      ·simp only [ad1,aa2,aaZ,aey,oe,hl];omega
      ·rw [show (i+1) *E.size=i *E.size+E.size from aa4 _ _];have h9:(mM.toList.take (i *E.size)++M0).length=i *E.size+E.size:=by rw [aa2,aaZ,oe,hl];omega
       show aP c.key φ3 E.size (aeZ (i *E.size+E.size) (mM.toList.take (i *E.size)++M0++mM.toList.drop (i *E.size+E.size))) _;rw [<-h9,aeJ];exact (hR.done.mono t1.ph).append ⟨M0,[],by simp,hl,et.mono t1.ph,rfl⟩
      ·show (aeZ (xs.length *E.size) (mM.toList.take (i *E.size)++M0++mM.toList.drop (i *E.size+E.size))).drop ((j+1) *E.size)=_;have h8:cells.drop ((j+1) *E.size)=(mM.toList.take (xs.length *E.size)).drop ((j+1) *E.size):=by rw [show (j+1) *E.size=j *E.size+E.size from aa4 _ _,<-aci,<-aci,hR.rest]
       rw [h8];apply List.ext_getElem?;intro q;have wg:(j+1) *E.size=j *E.size+E.size:=aa4 _ _;rw [aa3,aa3,abi,abi];split
       ·have h9:(mM.toList.take (i *E.size)++M0).length=i *E.size+E.size:=by rw [aa2,aaZ,oe,hl];omega
        rw [List.getElem?_append_right (by rw [h9];omega),h9,aa3];congr 1;omega
       ·rfl
      ·have:a.tmps.getD 6 undef= .int .i64 ((j+1:Nat):Int):=by rw [af.get 6];rfl
       rw [this];simp;omega
 exact key _ (tm2 _ _ 40)
theorem ach (hf:Zz P f t ti tb fu fi el fn r o)(hfi:Zt P fi t ti el fni ri oi)(hT:fZ P c.ti)(hE:c.tv el=some E)(dB:E.st=true)(eL:0<E.size):Oj P c f el:=by
 refine ⟨?_⟩;intro S Inv step g lb hp v0 xs ys w Z0 φ0 s0 s' Jc fS Hb hinv mL iu hd;obtain ⟨lz,od⟩:=aV hE;obtain ⟨I,cells,hI,Rg,dk,gJ,jt⟩:=fS.row;have hI:c.ti el=some I:=hI;rw [lz] at hI;cases hI;have dk:w.ownsRow 0 el E.size v0 xs.length cells:=dk;have gJ:aP c.key φ0 E.size cells xs:=gJ;have ol: ∀b,v0.ownBlock=some b-> ∀off,φ0 b off=none:=by
  intro b hb off;cases h:φ0 b off with
  |none=>rfl
  |some u=>have:=((jt b hb).2.1 off u h).1;cases this
 rcases dk.2 with ⟨rfl,h0⟩|⟨gb,cap,cT,rfl,_,ct,PD,B1,um,Mp⟩
 ·have hx:xs=[]:=abC h0;subst hx;refine jU hf.pos hf.name hf.body ((Qq (ob:=none) (g0:=0) (cT:= #[]) hf hfi hp hT hE dB eL (cp:=0) Jc (λh=>absurd h (by simp)) (λb hb=>by cases hb) gJ (by simp) hinv mL iu hd).mono ?_);rintro e W ⟨v,rfl,Z,φ,hW,h1⟩;rcases h1 with ⟨rfl,rfl,_⟩|⟨h1,_⟩
  ·exact ⟨_,rfl,Z,φ,hW,⟨E,[],lz,od,⟨by simp,.inl ⟨rfl,rfl⟩⟩,rfl,λaR hb=>by simp [abk] at hb⟩,λ_ h=>h⟩
  ·simp at h1
 ·have dO:=aN ct;have amF:xs.length<2^63:=by unfold Go.maxLen at B1;omega
  refine jU hf.pos hf.name hf.body ((Qq (ob:=some gb) (g0:=gb) hf hfi hp hT hE dB eL (cp:=cap) Jc (λh=>⟨rfl,rfl,ct,Mp,PD,um⟩) (λb hb=>by cases hb;exact ⟨Hb gb rfl,dO,ol gb rfl⟩) gJ amF hinv mL iu hd).mono ?_);rintro e W ⟨v,rfl,Z,φ,hW,h1⟩;rcases h1 with ⟨rfl,rfl,h2⟩|⟨h0,rfl,mM,h2,h3,h4⟩
  ·refine ⟨_,rfl,Z,φ,hW,⟨E,cells,lz,od,⟨dk.1,.inr ⟨gb,cap,cT,rfl,abD _,(h2 gb rfl).trans ct,PD,B1,um,Mp⟩⟩,gJ.mono hW.tr.ph,λaR hb=>⟨hb,λoff u hu=> ?_,λhc=>hc.elim⟩⟩,λ_ h=>h⟩;have hu:φ aR off=some u:=hu;rw [hW.free aR off hb] at hu;cases hu
  ·have hle:ys.length<=cap:=abj (Y7 hd) PD;refine ⟨_,rfl,Z,φ,hW,⟨E,mM.toList.take (ys.length *E.size),lz,od,⟨?_,.inr ⟨gb,cap,mM,rfl,abD _,?_,hle,B1,h3,rfl⟩⟩,h4,λaR hb=>⟨hb,λoff u hu=> ?_,λhc=>hc.elim⟩⟩,λ_ h=>h⟩
   ·exact h4.length
   ·have:mM=mM:=rfl;exact h2
   ·have hu:φ aR off=some u:=hu;rw [hW.free aR off hb] at hu;cases hu
end
end Dn
/-
  A step for each one that is not bad. Conditions: none.
-/
namespace Dn
def rO {S:Type}(step:Nat->S->Option S):List Bool->Nat->S->Option S
 |[],_,s=>some s
 |b::r,i,s=>match (if b then some s else step i s) with|some s'=>rO step r (i+1) s'|none=>none
end Dn
/-
  A method that calls a function for each good one, walked, with whatever function; closures that hand a captured variable on. Conditions: none.
-/
namespace Dn
open Go
section
variable {P:Program}{c:Ctx}{ops:Array Oper}{N:Act->World->Prop} {φ:Ph}{o:Oper}{a:Act} {w w':World}{n:Nat} {σ:Nat->Value}{Q:Exit->Act->World->Prop}
structure DS (c:Ctx) (ops:Array Oper) (pre rest:List Nat) (listed:Array Bool):Prop where
 lst:Xb ops listed pre
 dr:qT c ops.toList pre rest=true
 all: ∀i,i<ops.size->i∈pre\/i∈rest
 lt: ∀i∈pre,i<ops.size
 sel: ∀(j:Nat) (o:Oper) cs b,ops[j]? =some o->o.op≠ .select cs b
theorem DS.facts {x:Nat}{rest pre:List Nat}{listed:Array Bool}(h:DS c ops pre (x::rest) listed)(hx:ops[x]? =some o): x∉pre/\x∉rest/\x∈ad8 .any ops listed/\DS c ops (x::pre) rest (listed.setIfInBounds x true)/\ (bif dY o&&!dX c o then qS c ops.toList o [x] rest else (rest.all λy=>match ops.toList[y]? with
   |some p=>bif Dw p then H5 ops.toList p o&&aes c p else xm p (λi=>aa8 i x||(bn rest i&&!aet ops.toList i))
   |none=>false))=true:=by
 have Sn:x<ops.size:=(aas.1 hx).1;have hd:=h.dr;have hox:ops.toList[x]? =some o:=by simpa using hx
 simp only [qT,hox] at hd;simp only [aaV,aed] at hd;obtain ⟨⟨⟨⟨d1,d2⟩,d3⟩,d4⟩,d5⟩:=hd;have Ak:x∉pre:=by rw [<-bk,d2];simp
 have Jb:x∉rest:=by rw [<-bk,d3];simp
 refine ⟨Ak,Jb,?_,⟨h.lst.set Sn,d5,?_,?_,h.sel⟩,?_⟩
 ·refine mem_ready.2 ⟨(h.lst.oU Sn).2 Ak,o,hx,λed VI hb=> ?_⟩;have:=aa0.1 d1 ed (by simpa using VI);simp only [pX,hb,aeM,ad0] at this;have hm:=(bk _ _).1 this;exact (h.lst.done (h.lt _ hm)).2 hm
 ·intro i hi;rcases h.all i hi with h1|h1
  ·exact .inl (by simp [h1])
  ·rcases aba.1 h1 with h1|h1
   ·exact .inl (by simp [h1])
   ·exact .inr h1
 ·intro i hi;rcases aba.1 hi with rfl|hi
  ·exact Sn
  ·exact h.lt i hi
 ·exact d4
theorem acj {o:Oper}(h:kw o=true):jB c o=true:=by simp [jB,h]
theorem DS.read {x d:Nat}{rest pre:List Nat}{listed:Array Bool}{op:Op}{v:Value}(h:DS c ops pre (x::rest) listed)(hx:ops[x]? =some o)(ho:ai o d op)(hd:d<n)(K8:dY o=true)(hmv:dX c o=false)(dB:still c o=false)(hlk:qR o=none)(af:Tm a n σ)(hi:mb φ w)(bA: ∀w',(kw o=true->cL w w')->(execOp (ev σ) o).run P w'= .ok (.value v) w')(Mu: ∀a',Tm a' n (oV σ d v)->DS c ops (x::pre) rest (listed.setIfInBounds x true)->zq P c ops N φ rest.length (listed.setIfInBounds x true) a' w):zq P c ops N φ (rest.length+1) listed a w:=by
 obtain ⟨Ak,Jb,s7,lY,d4⟩:=h.facts hx;simp only [K8,hmv,adS,Bool.and_self,cond_true] at d4;obtain ⟨D,D1,D2,D3,D4⟩:=vH rest [x] d4 (λy hy df=>absurd (by simpa using hy) df);have hL:=h.lst;refine xJ (v:=v) D3 hx h.sel rest.length listed a w ?_ ?_ s7 ?_ hi ?_
 ·intro j oj Sl hjD hjx P7;have Qb:j<ops.size:=(aas.1 Sl).1;have hjr:j∈rest:=by
   rcases h.all j Qb with h1|h1
   ·exact absurd h1 ((hL.oU Qb).1 P7)
   ·rcases aba.1 h1 with h1|h1
    ·exact absurd h1 hjx
    ·exact h1
  obtain ⟨p,U8,KT,hp3⟩:=D4 j hjr hjD;rw [Sl] at U8;cases U8;exact ⟨KT,λhl hs=>by simp [oT,Sl,hp3 hl hs]⟩
 ·intro d hd;have hdn:d∉pre:=by
   rcases D2 d hd with h1|h1
   ·have h1:d=x:=by simpa using h1
    rw [h1];exact Ak
   ·exact λhp=>lG rest (x::pre) lY.dr d h1 (by simp [hp])
  by_cases Rj:d<ops.size
  ·cases hg:listed.getD d false with
   |false=>rfl
   |true=>exact absurd ((hL.done Rj).1 hg) hdn
  ·have hl: ¬d<listed.size:=by rw [hL.size];exact Rj
   simp [hl]
 ·refine .inl ⟨by simp [acQ,ho.guard],λw' hg=> ?_⟩;rw [af.eval];refine bA w' (λhl=> ?_);have:=(hg (acj hl)).1 dB;simpa [eu,Sb,hlk] using this
 ·rw [ho.dst];exact Mu _ (af.put hd v) lY
theorem DS.VT {x:Nat}{rest pre:List Nat}{listed:Array Bool}(h:DS c ops pre (x::rest) listed)(hx:ops[x]? =some o)(TY: ∀y∈rest,∀p,ops[y]? =some p->Dw p=false)(hnr:(dY o&&!dX c o)=false)(hw:wpOp P ops (oS N) x (λa' w'=>((∀oi,oT c oi ops x=true->eu c oi w w')/\mb φ w')/\zq P c ops N φ rest.length (listed.setIfInBounds x true) a' w') a w):zq P c ops N φ (rest.length+1) listed a w:=by
 obtain ⟨Ak,Jb,s7,lY,d4⟩:=h.facts hx;simp only [hnr,cond_false] at d4;refine ⟨λh0=>(by rw [h0] at s7;cases s7),λi hi=> ?_⟩;obtain ⟨hun,oi,VJ,Sp⟩:=mem_ready.1 hi;have VK:i<ops.size:=(aas.1 VJ).1;have uo:=(h.lst.oU VK).1 hun;by_cases Hc:i=x
 ·subst Hc;exact hw
 ·exfalso;have hir:i∈rest:=by
   rcases h.all i VK with h1|h1
   ·exact absurd h1 uo
   ·exact (aba.1 h1).resolve_left Hc
  have h1:=aa0.1 d4 i hir;have afl:ops.toList[i]? =some oi:=by simpa using VJ
  simp only [afl,TY i hir oi VJ,cond_false] at h1;unfold xm at h1;obtain ⟨ed,VI,hb⟩:=List.any_eq_true.1 h1;simp only [aaV,Bool.or_eq_true,pX] at hb;have MP:=Sp ed (by simpa using VI) hb.1;have rT:ed.on=x\/ed.on∈rest:=by
   rcases hb.2 with h2|h2
   ·exact .inl (aaX h2)
   ·exact .inr ((bk _ _).1 h2.1)
  have dO:ed.on<listed.size:=by apply Decidable.byContradiction;intro hh;simp [hh] at MP
  have hm:=(h.lst.done (by rw [<-h.lst.size];exact dO)).1 MP;rcases rT with h2|h2
  ·rw [h2] at hm;exact Ak hm
  ·exact lG rest (x::pre) lY.dr _ h2 (by simp [hm])
theorem DS.done {pre:List Nat}{listed:Array Bool}(h:DS c ops pre [] listed)(hN:N a w):zq P c ops N φ 0 listed a w:=by
 refine ⟨?_,hN⟩;cases hr:ad8 .any ops listed with
 |nil=>rfl
 |cons i is=>
  have hi:i∈ad8 .any ops listed:=by rw [hr];simp
  obtain ⟨h1,o,ho,_⟩:=mem_ready.1 hi;have dO:i<ops.size:=(aas.1 ho).1;exact absurd ((h.all i dO).resolve_right (by simp)) ((h.lst.oU dO).1 h1)
theorem D6 {id:Nat}{ord:List Nat}(hm:P.follows .mixedOrders=true)(hd:pS c ops ord=true)(h: ∀listed,DS c ops [] ord listed->zq P c ops (λa w=>Q .normal a w) φ ord.length listed a {w with drawn:=w.drawn+1}):(aaR id ops true).wp P Q a w:=by
 simp only [pS,aaV] at hd;obtain ⟨⟨⟨Yn,hl0⟩,z7⟩,hd⟩:=hd;have Lq: ∀(j:Nat) (o:Oper) cs b,ops[j]? =some o->o.op≠ .select cs b:=by intro j o cs b ho he;have:=aa0.1 Yn o (List.mem_of_getElem? (by simpa using ho:ops.toList[j]? =some o));simp [he] at this
 have hlen:ord.length=ops.size:=by have:=aaX hl0;simpa using this
 refine aeg (Q:=oS λa w=>Q .normal a w) ?_ (wp_region_any hm (P6 (c:=c) (φ:=φ) _ _ _ _ ?_))
 ·intro x a' w' hx;cases x<;>first|exact hx|exact hx.elim
 ·rw [<-hlen];exact h _ ⟨⟨by simp [hlen],λi hi=>by simp [hlen,hi]⟩,hd,λi hi=> .inr ((bk _ _).1 (aa0.1 z7 i (by simpa using hi))),by simp,Lq⟩
theorem Tm.Ul {x d:Nat}{op:Op}{f:Nat}{args:Array Value}{Rp:Value->World->Prop}{K:Act->World->Prop}(af:Tm a n σ)(hi:ops[x]? =some o)(ho:ai o d op)(hd:d<n)(bA:(execOp (ev σ) o).run P w=(callFunc f args).run P w)(hc:cm P f args w Rp)(h: ∀v w' a',Rp v w'->Tm a' n (oV σ d v)->K a' w'):wpOp P ops Q x K a w:=by unfold wpOp;simp only [hi,acQ,ho.guard,if_true];left;refine sZ (by rw [af.eval];exact bA) hc ?_;intro v w' hr;rw [ho.dst];exact h v w' _ hr (af.put hd v)
end
section
variable {P:Program}{c:Ctx}{o:Oper} {w w':World}{d:Nat}{e:Operand->Value}
theorem gm {t f g off q:Nat}{x:Operand}{I:TI}(ho:ai o d (.fieldAddr t x f))(hT:fZ P c.ti)(hI:c.tv t=some I)(dB:I.st=true)(hq:I.ES[f]? =some q)(hx:e x= .pointer (some ⟨g,off,none⟩))(w:World):(execOp e o).run P w= .ok (.value (.pointer (some ⟨g,off+q,none⟩))) w:=by
 obtain ⟨kR,hc⟩:=aV hI;obtain ⟨d,i,h1,h2,h3,h4⟩:=hT t I kR;cases d<;>simp only [rU] at h4;case struct fs=>
  obtain ⟨_,_,_,ho1,cw,TA,_⟩:=h4;rw [<-ho1,acw] at hq;cases hf:fs.toList[f]? with
  |none=>simp [hf] at hq
  |some fl=>
   simp [hf] at hq;subst hq;have XO:fs[f]? =some fl:=by simpa using hf
   obtain ⟨J,hJ,hJc,hJs⟩:=TA f fl XO;obtain ⟨ij,hij,hs,_⟩:=(hT _ _ hJ).info hJc;have hz:ij.size≠0:=by omega
   simp [execOp,ho.op,hx,Instr.fieldAt,run_underlying h1,XO,adX,fieldPlace,Go.sizeOf,typeInfo,hij,hz,ae8]
 all_goals (exfalso;simp_all)
theorem cr {t g off:Nat}{I:TI}{v:Value}(hT:fZ P c.ti)(hI:c.tv t=some I)(dB:I.st=false)(hs:I.size=1)(hm:w.cell? ⟨g,off,none⟩=some v):(BY t (.pointer (some ⟨g,off,none⟩))).run P w= .ok v w:=by
 obtain ⟨kR,hc⟩:=aV hI;have hr:w.rangeAt g off [v]:=by
  intro j u hj;cases j with
  |zero=>simp at hj;subst hj;exact hm
  |succ j=>simp at hj
 rcases jC (P:=P) (hT t I kR) hc (vs:=[v]) (by simp [hs]) hr with ⟨h,_⟩|⟨_,u,hu,h⟩
 ·rcases h with h|h
  ·rw [dB] at h;cases h
  ·omega
 ·simp at hu;subst hu;exact h w hr
theorem jg {t g off:Nat}{I:TI}{vs:List Value}(hT:fZ P c.ti)(hI:c.tv t=some I)(dB:I.st=true)(hs:vs.length=I.size)(hm:w.rangeAt g off vs):(BY t (.pointer (some ⟨g,off,none⟩))).run P w= .ok (.agg vs.toArray) w:=by
 obtain ⟨kR,hc⟩:=aV hI;rcases jC (P:=P) (hT t I kR) hc hs hm with ⟨_,h⟩|⟨h,_⟩
 ·exact h w hm
 ·rw [dB] at h;cases h
theorem ew {t:Nat}{x:Operand}{v:Value}(ho:ai o d (.load t x))(h:(BY t (e x)).run P w= .ok v w):(execOp e o).run P w= .ok (.value v) w:=by simp [execOp,ho.op,h]
theorem oW {x:Operand}{ad:Addr}(ho:ai o d (.nilCheck x))(hx:e x= .pointer (some ad))(w:World):(execOp e o).run P w= .ok (.value (.pointer (some ad))) w:=by simp [execOp,ho.op,hx]
theorem Ox {t el:TypeId}{x y:Operand}{g off n cp j size:Nat}{i:TypeInfo}(ho:ai o d (.indexAddr t x y))(hu:P.underlying t=some (.slice el))(hi:P.info? el=some i)(hs:i.size=size)(hx:e x= .slice (some ⟨g,off,none⟩) n cp)(hy:e y= .int .i64 ((j:Nat):Int))(hj:j<n)(w:World):(execOp e o).run P w= .ok (.value (.pointer (some ⟨g,off+j *size,none⟩))) w:=by
 have h2: ¬n<=j:=by omega
 simp [execOp,ho.op,hx,hy,Instr.indexAt,asIntOf,run_underlying hu,h2,Go.sizeOf,typeInfo,hi,hs,ae8]
theorem ack {t:Nat}{x:Operand}(ho:ai o d (.box t x))(w:World):(execOp e o).run P w= .ok (.value (.pointer (some ⟨w.heap.size,0,none⟩))) (w.alloc (.cells (e x).cells t)):=by simp [execOp,ho.op,Instr.box,newVar,newRow,newObj,Sem.run]
theorem SF {f:Nat}{x y:Operand}(ho:ai o d (.makeFunc (.func f) #[] #[x,y]))(w:World):(execOp e o).run P w= .ok (.value (.func (.func f) #[] #[e x,e y])) w:=by simp [execOp,ho.op,Instr.makeFunc]
theorem Um {t t':TypeId}{x y:Operand}{p q:Int}(ho:ai o d (.binOp .add t x y t'))(hx:e x= .int .i64 p)(hy:e y= .int .i64 q)(w:World):(execOp e o).run P w= .ok (.value (.int .i64 (aaU .i64 (p+q)))) w:=s8 ho hx hy (λw=>by simp [Go.binOp,Op.intArith]) w
theorem Un {x:Operand}{t:TypeId}{g:Nat}{v:Value}(ho:ai o d (.call {callee:= .value (.func g),args:= #[x],argTypes:= #[t]})) (he:e (.func g)= .func (.func g) #[] #[]) (hx:e x=v) (w:World):(execOp e o).run P w=(callFunc g #[v]).run P w:=by simp [execOp,ho.op,resolve,invoke,he,hx,adu]
theorem uX {x y:Operand}{t:Array TypeId}{g:Nat}{v u:Value}(ho:ai o d (.call {callee:= .value (.func g),args:= #[x,y],argTypes:=t})) (he:e (.func g)= .func (.func g) #[] #[]) (hx:e x=v) (hy:e y=u) (w:World):(execOp e o).run P w=(callFunc g #[v,u]).run P w:=by simp [execOp,ho.op,resolve,invoke,he,hx,hy,adu]
theorem HP {x y z:Operand}{t:Array TypeId}{g:Nat}{v u s:Value}(ho:ai o d (.call {callee:= .value (.func g),args:= #[x,y,z],argTypes:=t})) (he:e (.func g)= .func (.func g) #[] #[]) (hx:e x=v) (hy:e y=u) (hz:e z=s) (w:World):(execOp e o).run P w=(callFunc g #[v,u,s]).run P w:=by simp [execOp,ho.op,resolve,invoke,he,hx,hy,hz,adu]
end
def Jq (r:Nat->Nat)(o:Nat->Oper):Code:= .seq (.region (r 0) #[o 0,o 1,o 2,o 3,o 4,o 5] false) (.block 0 (.loop (.seq (.region (r 1) #[o 6] false) (.seq (.cond (.tmp 12) .skip (.exit 0)) (.seq (.block 1 (.seq (.region (r 2) #[o 7,o 8,o 9,o 10,o 11] false) (.seq (.region (r 3) #[o 12,o 13] false) (.cond (.tmp 17) (.region (r 4) #[o 14,o 15,o 16] false) .skip)))) (.region (r 5) #[o 17,o 18] false))))))
structure acm (tS tb tB ti:Nat) (o:Nat->Oper):Prop where
 h0:ai (o 0) 6 (.move (.tmp 0))
 h1:ai (o 1) 7 (.nilCheck (.tmp 6))
 h2:ai (o 2) 8 (.fieldAddr tS (.tmp 7) 1)
 h3:ai (o 3) 9 (.load tb (.tmp 8))
 h4:ai (o 4) 10 (.call {callee:= .builtin .len,args:= #[.tmp 9],argTypes:= #[tb]})
 h5:ai (o 5) 11 (.move (.const (.int .i64 0)))
 h6:ai (o 6) 12 (.binOp .lss ti (.tmp 11) (.tmp 10) ti)
 h7:ai (o 7) 13 (.move (.tmp 11))
 h8:ai (o 8) 14 (.indexAddr tb (.tmp 9) (.tmp 11))
 h9:ai (o 9) 15 (.load tB (.tmp 14))
 wg:ai (o 10) 4 (.assign (.tmp 13))
 zt:ai (o 11) 5 (.assign (.tmp 15))
 ER:ai (o 12) 16 (.move (.tmp 5))
 Dp:ai (o 13) 17 (.unOp .not tB (.tmp 16))
 Dq:ai (o 14) 18 (.move (.tmp 1))
 Dr:ai (o 15) 19 (.move (.tmp 4))
 Bl:ai (o 16) 20 (.call {callee:= .value (.tmp 18),args:= #[.tmp 19],argTypes:= #[ti]})
 DX:ai (o 17) 21 (.binOp .add ti (.tmp 11) (.const (.int .i64 1)) ti)
 Fl:ai (o 18) 11 (.move (.tmp 21))
structure ZC (P:Program) (f tS tb tB ti:Nat) (fn:Func) (r:Nat->Nat) (o:Nat->Oper):Prop where
 pos:P.funcs[f]? =some fn
 name:(fn.name== "runtime.NumGoroutine")=false
 tmps:fn.ntmps=22
 res:fn.results= #[]
 body:fn.body=some (Jq r o)
 ops:acm tS tb tB ti o
 vK:P.underlying tb=some (.slice tB)
theorem ZD {P:Program}{fn:Func}{n:Nat}{a:Act}{w:World} {σ:Nat->Value}{R:Value->World->Prop}(hr:fn.results= #[])(af:Tm a n σ)(h: ∀v,R v w):bodyPost P fn (λe W=> ∃v,e= .returned v/\R v W) .normal a w:=by refine ⟨af.defers,.tuple #[],?_,_,rfl,h _⟩;simp [results,hr]
section
variable {P:Program}{c:Ctx}{f tS tb tB ti:Nat}{fn:Func}{r:Nat->Nat}{o:Nat->Oper}{IS Ib IB:TI}{w:World}
theorem M1 {S:Type}(hf:ZC P f tS tb tB ti fn r o)(hT:fZ P c.ti)(hS:c.tv tS=some IS)(hSt:IS.st=true)(hSf:IS.ES[1]? =some 2)(hb:c.tv tb=some Ib)(ul:Ib.st=false)(sW:Ib.size=1)(hB:c.tv tB=some IB)(hB1:IB.st=false)(hB2:IB.size=1){Inv:S->World->Prop}{step:Nat->S->Option S}{g:Nat}{lb:Array Value}{bc:Nat}{ad:Option Addr}{cp:Nat}{bl:List Bool} {s0 s':S}(rM: ∀s s' W (i:Nat),i<bl.length->Inv s W->step i s=some s'->cm P g (#[.int .i64 (i:Int)]++lb) W λ_ W'=>Inv s' W')(hc0:w.cell? ⟨bc,2,none⟩=some (.slice ad bl.length cp))(Lh:0<bl.length-> ∃aR off,ad=some ⟨aR,off,none⟩/\ ∀s W,Inv s W-> ∀k (h:k<bl.length),W.cell? ⟨aR,off+k,none⟩=some (.bool bl[k]))(hlen:bl.length<2^62)(hinv:Inv s0 w)(hd:rO step bl 0 s0=some s'): cm P f #[.pointer (some ⟨bc,0,none⟩),.func (.func g) #[] lb] w λ_ W=>Inv s' W:=by
 refine jU hf.pos hf.name hf.body (calls_of_wp hf.pos hf.body ?_);rw [hf.tmps];obtain ⟨hBi,hBc⟩:=aV hB;obtain ⟨iB,zB,hiB,hsB,aqP,aqQ,aqR⟩:=iA (hT _ IB hBi) hBc;have key: ∀a:Act,Tm a 22 (oV (oV (λ_=>undef) 0 (.pointer (some ⟨bc,0,none⟩))) 1 (.func (.func g) #[] lb))->(Jq r o).wp P (bodyPost P fn λe W=> ∃v,e= .returned v/\Inv s' W) a w:=by
  intro a af;unfold Jq;refine wp_seq (wp_region ?_);rw [show sh (#[o 0,o 1,o 2,o 3,o 4,o 5]:Array Oper).size=[0,1,2,3,4,5] from rfl];refine af.step (v:= .pointer (some ⟨bc,0,none⟩)) rfl hf.ops.h0 (by decide) (az hf.ops.h0 _) (λa af=> ?_);refine af.step rfl hf.ops.h1 (by decide) (oW hf.ops.h1 rfl _) (λa af=> ?_);refine af.step rfl hf.ops.h2 (by decide) (gm hf.ops.h2 hT hS hSt hSf rfl _) (λa af=> ?_);refine af.step rfl hf.ops.h3 (by decide) (ew hf.ops.h3 (cr hT hb ul sW (by simpa using hc0))) (λa af=> ?_);refine af.step (v:= .int .i64 ((bl.length:Nat):Int)) rfl hf.ops.h4 (by decide) (j7 hf.ops.h4 hf.vK rfl _) (λa af=> ?_);refine af.step (v:= .int .i64 0) rfl hf.ops.h5 (by decide) (az hf.ops.h5 _) (λa af=> ?_);refine wp_block (wp_loop (λa W=> ∃σ,Tm a 22 σ/\σ 1= .func (.func g) #[] lb/\σ 9= .slice ad bl.length cp/\σ 10= .int .i64 ((bl.length:Nat):Int)/\ ∃k:Nat,k<=bl.length/\σ 11= .int .i64 (k:Int)/\ ∃sk,Inv sk W/\rO step (bl.drop k) k sk=some s') (λa W=>match a.tmps.getD 11 undef with| .int _ k=>bl.length-k.toNat|_=>0) ?_ ?_)
  ·exact ⟨_,af,rfl,rfl,rfl,0,abD _,rfl,s0,hinv,by simpa using hd⟩
  ·clear af;rintro a W ⟨σ,af,h1,h9,wg,k,hk,zt,sk,hI,Hd⟩;have aiK:(match a.tmps.getD 11 undef with| .int _ k=>bl.length-k.toNat|_=>0)=bl.length-k:=by rw [af.get 11,zt];simp
   rw [aiK];clear aiK;refine wp_seq (wp_region ?_);rw [show sh (#[o 6]:Array Oper).size=[0] from rfl];refine af.step (v:= .bool (decide ((k:Int)<(bl.length:Int)))) rfl hf.ops.h6 (by decide) (Ap hf.ops.h6 zt wg _) (λa af=> ?_);refine wp_seq ?_;by_cases dO:k<bl.length;rotate_left
   ·refine af.cond (b:=false) (by show IN (decide ((k:Int)<(bl.length:Int)))=_;rw [decide_eq_false (by omega)]) ?_;simp only [AI,if_false];refine wp_exit ?_;have hkn:k=bl.length:=by omega
    subst hkn;rw [List.drop_length] at Hd;simp only [rO,bB] at Hd;subst Hd;exact ZD hf.res af (λ_=>hI)
   ·refine af.cond (b:=true) (by show IN (decide ((k:Int)<(bl.length:Int)))=_;rw [decide_eq_true (by omega)]) ?_;simp only [if_true];refine wp_skip ?_;obtain ⟨aR,off,Zx,a8⟩:=Lh (by omega);have pL:=a8 sk W hI k dO;have h9':=h9;rw [Zx] at h9';have hdr:bl.drop k=bl[k]::bl.drop (k+1):=acv dO;rw [hdr] at Hd;simp only [rO] at Hd;refine wp_seq (wp_block ?_);refine wp_seq (wp_region ?_);rw [show sh (#[o 7,o 8,o 9,o 10,o 11]:Array Oper).size=[0,1,2,3,4] from rfl];refine af.step (v:= .int .i64 (k:Int)) rfl hf.ops.h7 (by decide) ((az hf.ops.h7 _).trans (by show AT (AS (σ 11)) W=_;rw [zt])) (λa af=> ?_);refine af.step rfl hf.ops.h8 (by decide) (Ox (size:=1) hf.ops.h8 hf.vK hiB (by rw [hsB,hB2]) h9' zt dO _) (λa af=> ?_);refine af.step (v:= .bool bl[k]) rfl hf.ops.h9 (by decide) (ew hf.ops.h9 (cr hT hB hB1 hB2 (by simpa using pL))) (λa af=> ?_);refine af.step (v:= .int .i64 (k:Int)) rfl hf.ops.wg (by decide) (bD hf.ops.wg _) (λa af=> ?_);refine af.step (v:= .bool bl[k]) rfl hf.ops.zt (by decide) (bD hf.ops.zt _) (λa af=> ?_);refine wp_seq (wp_region ?_);rw [show sh (#[o 12,o 13]:Array Oper).size=[0,1] from rfl];refine af.step (v:= .bool bl[k]) rfl hf.ops.ER (by decide) (az hf.ops.ER _) (λa af=> ?_);refine af.step (v:= .bool (!bl[k])) rfl hf.ops.Dp (by decide) (DU hf.ops.Dp rfl _) (λa af=> ?_);have last: ∀(a:Act) (W:World) (σ:Nat->Value) (s2:S),Tm a 22 σ->σ 1= .func (.func g) #[] lb->σ 9= .slice ad bl.length cp->σ 10= .int .i64 ((bl.length:Nat):Int)->σ 11= .int .i64 (k:Int)->Inv s2 W->rO step (bl.drop (k+1)) (k+1) s2=some s'-> (aaR (r 5) #[o 17,o 18] false).wp P (Exit.then (λa W=>(∃σ,Tm a 22 σ/\σ 1= .func (.func g) #[] lb/\σ 9= .slice ad bl.length cp/\σ 10= .int .i64 ((bl.length:Nat):Int)/\ ∃k:Nat,k<=bl.length/\σ 11= .int .i64 (k:Int)/\ ∃sk,Inv sk W/\rO step (bl.drop k) k sk=some s')/\(match a.tmps.getD 11 undef with| .int _ k=>bl.length-k.toNat|_=>0)<bl.length-k) (ady 0 (bodyPost P fn λe W=> ∃v,e= .returned v/\Inv s' W))) a W:=by
     intro a W σ s2 af h1 h9 wg zt hI Hd;refine wp_region ?_;rw [show sh (#[o 17,o 18]:Array Oper).size=[0,1] from rfl];refine af.step (v:= .int .i64 ((k+1:Nat):Int)) rfl hf.ops.DX (by decide) (iP (q:=1) hf.ops.DX zt rfl (by omega) _) (λa af=> ?_);refine af.step (v:= .int .i64 ((k+1:Nat):Int)) rfl hf.ops.Fl (by decide) (az hf.ops.Fl _) (λa af=> ?_);refine ⟨⟨_,af,h1,h9,wg,k+1,by omega,rfl,s2,hI,Hd⟩,?_⟩;have:a.tmps.getD 11 undef= .int .i64 ((k+1:Nat):Int):=by rw [af.get 11];rfl
     rw [this];simp;omega
    cases Rh:bl[k] with
    |true=>rw [Rh] at Hd;simp only [if_true] at Hd;refine af.cond (b:=false) (by show IN (!bl[k])=_;rw [Rh];rfl) ?_;simp only [AI,if_false];refine wp_skip ?_;exact last a W _ sk af h1 h9 wg zt hI Hd
    |false=>
     rw [Rh] at Hd;simp only [AI,if_false] at Hd;cases dB:step k sk with
     |none=>rw [dB] at Hd;cases Hd
     |some s2=>
     rw [dB] at Hd;refine af.cond (b:=true) (by show IN (!bl[k])=_;rw [Rh];rfl) ?_;simp only [if_true];refine wp_region ?_;rw [show sh (#[o 14,o 15,o 16]:Array Oper).size=[0,1,2] from rfl];refine af.step (v:= .func (.func g) #[] lb) rfl hf.ops.Dq (by decide) ((az hf.ops.Dq _).trans (by show AT (AS (σ 1)) W=_;rw [h1])) (λa af=> ?_);refine af.step (v:= .int .i64 (k:Int)) rfl hf.ops.Dr (by decide) (az hf.ops.Dr _) (λa af=> ?_);refine af.call rfl hf.ops.Bl (by decide) (Ou hf.ops.Bl rfl rfl _) (rM sk s2 W k dO hI dB) ?_;rintro v W2 a zY af;exact last a W2 _ s2 af h1 h9 wg zt zY Hd
 exact key _ (tm2 _ _ 20)
end
structure ZE (P:Program) (f fE tP t3:Nat) (fn:Func) (r:Nat) (o:Nat->Oper):Prop where
 pos:P.funcs[f]? =some fn
 name:(fn.name== "runtime.NumGoroutine")=false
 tmps:fn.ntmps=8
 res:fn.results= #[]
 body:fn.body=some (.region r #[o 0,o 1,o 2,o 3] false)
 h0:ai (o 0) 4 (.load tP (.tmp 1))
 h1:ai (o 1) 5 (.move (.tmp 0))
 h2:ai (o 2) 6 (.load t3 (.tmp 2))
 h3: ∃ts,ai (o 3) 7 (.call {callee:= .value (.func fE),args:= #[.tmp 4,.tmp 5,.tmp 6],argTypes:=ts})
theorem ZF {P:Program}{c:Ctx}{f fE tP t3:Nat}{fn:Func}{r:Nat}{o:Nat->Oper}{IP:TI}{W:World}{bd b3 bc i:Nat}{v3:Value}{R:World->Prop}(hf:ZE P f fE tP t3 fn r o)(hT:fZ P c.ti)(hP:c.tv tP=some IP)(hP1:IP.st=false)(hP2:IP.size=1)(h1:W.cell? ⟨bd,0,none⟩=some (.pointer (some ⟨bc,0,none⟩)))(h3:(BY t3 (.pointer (some ⟨b3,0,none⟩))).run P W= .ok v3 W)(hc:cm P fE #[.pointer (some ⟨bc,0,none⟩),.int .i64 (i:Int),v3] W λ_ W'=>R W'): cm P f (#[.int .i64 (i:Int)]++ #[.pointer (some ⟨bd,0,none⟩),.pointer (some ⟨b3,0,none⟩)]) W λ_ W'=>R W':=by refine jU hf.pos hf.name hf.body (calls_of_wp hf.pos hf.body ?_);rw [hf.tmps];have aiL:Tm {tmps:=(#[.int .i64 (i:Int)]++ #[.pointer (some ⟨bd,0,none⟩),.pointer (some ⟨b3,0,none⟩)])++abS (8-(#[.int .i64 (i:Int)]++ #[.pointer (some ⟨bd,0,none⟩),.pointer (some ⟨b3,0,none⟩)]:Array Value).size) undef,defers:=[]} 8 (oV (oV (oV (λ_=>undef) 0 (.int .i64 (i:Int))) 1 (.pointer (some ⟨bd,0,none⟩))) 2 (.pointer (some ⟨b3,0,none⟩))):=tm3 _ _ _ 5;generalize ({tmps:=_,defers:=[]}:Act)=a at aiL;refine wp_region ?_;rw [show sh (#[o 0,o 1,o 2,o 3]:Array Oper).size=[0,1,2,3] from rfl];obtain ⟨ts,h3o⟩:=hf.h3;refine aiL.step rfl hf.h0 (by decide) (ew hf.h0 (cr hT hP hP1 hP2 h1)) (λa af=> ?_);refine af.step (v:= .int .i64 (i:Int)) rfl hf.h1 (by decide) (az hf.h1 _) (λa af=> ?_);refine af.step rfl hf.h2 (by decide) (ew hf.h2 h3) (λa af=> ?_);refine af.call rfl h3o (by decide) (HP h3o rfl rfl rfl rfl _) hc ?_;rintro v W2 a hR af;exact ZD hf.res af λ_=>hR
end Dn
/-
  What stands in a variable of six parts, of which one is owned: looks at it, and calls that are handed it. Conditions: none.
-/
namespace Dn
open Go
structure CS where
 F:Int
 T:Int
 bl:List MV
 wl:List MV
 nl:List MV
 pl:List MV
def CS.ls (s:CS):List MV:=[.i .i64 s.F,.i .i64 s.T,.list s.bl,.list s.wl,.list s.nl,.list s.pl]
abbrev KS (f ty:Nat):List LK:=[.k (.i .i64),.k (.i .i64),.k .l,.k .l,.own f ty false,.k .l]
structure Six where
 b:Value
 w:Value
 n:Value
 p:Value
def Six.vs (s:CS)(v:Six):List Value:=[.int .i64 s.F,.int .i64 s.T,v.b,v.w,v.n,v.p]
structure Qs (c:Ctx) (Z:Nat->Prop) (φ:Ph) (W:World) (bc ty:Nat) (s:CS) (v:Six):Prop where
 heap: ∃T,W.heap[bc]? =some (.cells (v.vs s).toArray T (0,0))
 b7:Z bc
 free: ∀o,φ bc o=none
 b:gk c.key φ [v.b] (.list s.bl)
 w:gk c.key φ [v.w] (.list s.wl)
 p:gk c.key φ [v.p] (.list s.pl)
 n:cj c (bu.plain Z) (mN c.key φ) W v.n ⟨ty,false,s.nl⟩
 off:v.n.ownBlock≠some bc
section
variable {P:Program}{c:Ctx}{Z:Nat->Prop} {φ:Ph} {W W':World}{bc ty f:Nat}{s:CS}
theorem ZG:Gq (KS f ty) s.ls=some ([.p (.i .i64 s.F),.p (.i .i64 s.T),.p (.list s.bl),.p (.list s.wl),.own f,.p (.list s.pl)],[(f,⟨ty,false,s.nl⟩)]):=by simp [Gq,CS.ls,KS,cH,jY,jn,gC,gI,gL,gN,Pk]
theorem Oy {key:Nat->Nat}{vs:List Value}{m:MV}(h:gk key φ vs m)(hm:m.one=true): ∃v,vs=[v]:=by obtain ⟨v,h1,_⟩:=h.one hm;exact ⟨v,h1⟩
theorem eM.six (h:eM c Z φ W bc (KS f ty) s.ls): ∃v,Qs c Z φ W bc ty s v:=by
 obtain ⟨cs,m,E,arr,T,h1,h2,h3,h4,h5,h6,h7⟩:=h;rw [ZG] at h1;simp only [bB,aa9] at h1;obtain ⟨rfl,rfl⟩:=h1;obtain ⟨v0,r0,e0,⟨_,l0⟩,h5⟩:=h5;obtain ⟨v1,r1,e1,⟨_,l1⟩,h5⟩:=h5;obtain ⟨v2,r2,e2,⟨_,l2⟩,h5⟩:=h5;obtain ⟨v3,r3,e3,⟨_,l3⟩,h5⟩:=h5;obtain ⟨v4,r4,e4,⟨vn,rfl,_,hE⟩,h5⟩:=h5;obtain ⟨v5,r5,e5,⟨_,l5⟩,h5⟩:=h5;have h5:r5=[]:=h5;subst h5;have l0:gk c.key φ v0 (.i .i64 s.F):=l0;have l1:gk c.key φ v1 (.i .i64 s.T):=l1;cases l0;cases l1;have l2:gk c.key φ v2 (.list s.bl):=l2;have l3:gk c.key φ v3 (.list s.wl):=l3;have l5:gk c.key φ v5 (.list s.pl):=l5;obtain ⟨vb,rfl⟩:=Oy l2 rfl;obtain ⟨vw,rfl⟩:=Oy l3 rfl;obtain ⟨vp,rfl⟩:=Oy l5 rfl;have hf:aE [(f,(⟨ty,false,s.nl⟩:ox))] f=some ⟨ty,false,s.nl⟩:=by simp [aE]
 have hE:=hE _ hf;subst hE;obtain ⟨k1,k2⟩:=h6 f _ hf;refine ⟨⟨vb,vw,_,vp⟩,⟨T,?_⟩,h3,h4,l2,l3,l5,k1.env rfl rfl,k2⟩;have:arr=(Six.vs s ⟨vb,vw,E f,vp⟩).toArray:=by apply adv.1;rw [e0,e1,e2,e3,e4,e5];rfl
 rw [<-this];exact h2
theorem Qs.cell {v:Six}(h:Qs c Z φ W bc ty s v):eM c Z φ W bc (KS f ty) s.ls:=by
 obtain ⟨T,hh⟩:=h.heap;have ic:v.n.oneCell'=true:=by obtain ⟨I,cells,q1,q2,q3,q4,q5⟩:=h.n.row;rcases q3.2 with ⟨h1,_⟩|⟨g,cap,cT,h1,_⟩<;>rw [h1]<;>rfl
 have hf: ∀f' o',aE [(f,(⟨ty,false,s.nl⟩:ox))] f'=some o'->f'=f/\o'=⟨ty,false,s.nl⟩:=by
  intro f' o' ho;simp only [aE,eY] at ho;by_cases eJ:f=f'
  ·subst eJ;simp at ho;exact ⟨rfl,ho.symm⟩
  ·simp [eJ] at ho
 refine ⟨_,_,λ_=>v.n,_,T,ZG,hh,h.b7,h.free,?_,?_,?_⟩
 ·exact ⟨[_],_,rfl,⟨rfl,.i _ _⟩,[_],_,rfl,⟨rfl,.i _ _⟩,[_],_,rfl,⟨rfl,h.b⟩,[_],_,rfl,⟨rfl,h.w⟩,[_],_,rfl,⟨_,rfl,ic,λ_ _=>rfl⟩,[_],_,rfl,⟨rfl,h.p⟩,rfl⟩
 ·intro f' o' ho;obtain ⟨rfl,rfl⟩:=hf f' o' ho;exact ⟨h.n.env rfl rfl,h.off⟩
 ·intro f1 f2 o1 o2 k h1 h2 _ _;exact (hf f1 o1 h1).1.trans (hf f2 o2 h2).1.symm
theorem eM.frame {aR:Nat}{ks:List LK}{ls:List MV}(h:eM c Z φ W aR ks ls)(nM:W.heap.size<=W'.heap.size)(jr: ∀b,Z b->b<W.heap.size->W'.heap[b]? =W.heap[b]?):eM c (λb=>Z b/\b<W.heap.size) φ W' aR ks ls:=by
 obtain ⟨cs,m,E,arr,T,k1,k2,k3,k4,k5,k6,k7⟩:=h;have dO:=aN k2;refine ⟨cs,m,E,arr,T,k1,(jr aR k3 dO).trans k2,⟨k3,dO⟩,k4,k5,λf' o' ho=>⟨?_,(k6 f' o' ho).2⟩,k7⟩;obtain ⟨I,cells,q1,q2,q3,q4,q5⟩:=(k6 f' o' ho).1.row;refine ⟨I,cells,q1,q2,⟨q3.1,?_⟩,q4,λb hb=>⟨⟨(q5 b hb).1,Iv q3 hb⟩,(q5 b hb).2⟩⟩;rcases q3.2 with h6|⟨g,cap,cT,r1,r2,r3,r4⟩
 ·exact .inl h6
 ·exact .inr ⟨g,cap,cT,r1,r2,(jr g (q5 g (by rw [r1];rfl)).1 (aN r3)).trans r3,r4⟩
theorem eM.more {φ':Ph}{aR:Nat}{ks:List LK}{ls:List MV}(h:eM c Z φ W aR ks ls)(hp:fY φ φ')(hz: ∀b o,Z b->φ' b o=φ b o):eM c Z φ' W aR ks ls:=by
 obtain ⟨cs,m,E,arr,T,k1,k2,k3,k4,k5,k6,k7⟩:=h;have rT:jQ (λ_=>True) (λ_=>True) ⟨c.key,φ,E,λ_=>aR,m⟩ ⟨c.key,φ',E,λ_=>aR,m⟩:=⟨rfl,hp,λ_ _=>rfl,λf o ho _=>⟨o,ho,rfl,rfl⟩⟩
 refine ⟨cs,m,E,arr,T,k1,k2,k3,λo=>by rw [hz aR o k3];exact k4 o,k5.on rT (λ_ _ _ _=>trivial),λf' o' ho=>⟨?_,(k6 f' o' ho).2⟩,k7⟩;obtain ⟨I,cells,q1,q2,q3,q4,q5⟩:=(k6 f' o' ho).1.row;refine ⟨I,cells,q1,q2,q3,q4.mono hp,λb hb=>⟨(q5 b hb).1,λoff u hu=>(q5 b hb).2.1 off u ?_,λhc=>hc.elim⟩⟩;have hu:φ' b off=some u:=hu;rw [hz b off (q5 b hb).1] at hu;exact hu
theorem cj.still {v:Value}{xs:List MV}(h:cj c (bu.plain Z) (mN c.key φ) W v ⟨ty,false,xs⟩)(hi:mb φ W): ∃φ',fY φ φ'/\mb φ' W/\(∀b o,v.ownBlock≠some b->φ' b o=φ b o)/\gk c.key φ' [v] (.list xs):=by
 obtain ⟨I,cells,hI,Rg,dk,gJ,hz⟩:=h.row;have gJ:aP c.key φ I.size cells xs:=gJ;have hlen:=gJ.length;have TY: ∀b,v.ownBlock=some b-> ∀off,φ b off=none:=by
  intro b hb off;cases hq:φ b off with
  |none=>rfl
  |some u=>exact absurd ((hz b hb).2.1 off u hq).1 (by simp)
 have hle:fY φ (jR φ v cells):=by
  intro b off u hu;unfold jR;by_cases hc:v.ownBlock=some b/\off<cells.length
  ·rw [TY b hc.1 off] at hu;cases hu
  ·rw [if_neg hc];exact hu
 refine ⟨jR φ v cells,hle,?_,λb o hb=>by unfold jR;simp [hb],?_⟩
 ·intro b off u hu;unfold jR at hu;by_cases hc:v.ownBlock=some b/\off<cells.length
  ·rw [if_pos hc] at hu;rcases dk.2 with ⟨hE,_⟩|⟨g,cap,cT,hE,_,hg,hn,B1,um,Mp⟩
   ·rw [hE] at hc;simp [abk] at hc
   ·rw [hE] at hc;simp only [abk,bB] at hc;obtain ⟨hb,ho⟩:=hc;subst hb;rw [cell_of hg];rw [<-Mp,abi] at hu;have aoG:cells.length=xs.length *I.size:=hlen;have aqU:aeZ (xs.length *I.size) cT.toList=cells:=Mp;have cw:off<xs.length *I.size:=by omega
    simp only [cw,if_true] at hu;simpa using hu
  ·rw [if_neg hc] at hu;exact hi _ _ _ hu
 ·have z8:=gJ.mono hle;rcases dk.2 with ⟨hE,hn⟩|⟨g,cap,cT,hE,_,hg,hn,B1,um,Mp⟩
  ·have hx:xs=[]:=abC hn;rw [hE,hx];exact .list none 0 [] 0 0 0 (λ_=>[]) (by simp) (by simp) (by simp) (by simp) (by simp)
  ·have hv:[v]=[aeA (some ⟨g,0,none⟩) xs.length cap]:=by rw [hE]
   rw [hv];have G7: ∀i (hi:i<xs.length),∃v1,v1.length=I.size/\gk c.key (jR φ v cells) v1 xs[i]/\(cells.drop (i *I.size)).take I.size=v1:=by intro i hi;obtain ⟨p1,v1,p2,he,NR,zm,et⟩:=z8.at (adl hi);refine ⟨v1,zm,et,?_⟩;rw [he,ad7,<-NR,List.drop_left,<-zm,aeJ]
   refine .list (some ⟨g,0,none⟩) cap xs g 0 I.size (λi=>(cells.drop (i *I.size)).take I.size) hn (λ_=>rfl) ?_ ?_ ?_
   ·intro i hi;obtain ⟨v1,h1,_,h3⟩:=G7 i hi;rw [h3,h1]
   ·intro i j hi hj;have hb:v.ownBlock=some g:=by rw [hE];rfl
    have Aa:i *I.size+j<cells.length:=by
     rw [hlen];calc i *I.size+j<i *I.size+I.size:=by omega
      _=(i+1) *I.size:=by rw [aa4]
      _<=xs.length *I.size:=adR _ hi
    rw [aaY];unfold jR;simp only [hb,Aa,and_self,if_true];rw [abi];simp only [hj,if_true,aa3]
   ·intro i hi;obtain ⟨v1,_,h2,h3⟩:=G7 i hi;rw [h3];exact h2
def HQ (φ:Ph)(b:Nat)(vs:List Value):Ph:=λb' o=>if b'=b then vs[o]? else φ b' o
theorem Fq {b:Nat}{vs:List Value}(h: ∀o,φ b o=none):fY φ (HQ φ b vs):=by
 intro b' o u hu;unfold HQ;by_cases hb:b'=b
 ·subst hb;rw [h] at hu;cases hu
 ·rw [if_neg hb];exact hu
theorem D7 {b:Nat}{vs:List Value}{T:TypeId}(hi:mb φ W)(hh:W.heap[b]? =some (.cells vs.toArray T (0,0))):mb (HQ φ b vs) W:=by
 intro b' o u hu;unfold HQ at hu;by_cases hb:b'=b
 ·subst hb;rw [if_pos rfl] at hu;rw [cell_of hh];simpa using hu
 ·rw [if_neg hb] at hu;exact hi _ _ _ hu
theorem Qs.still {v:Six}(h:Qs c Z φ W bc ty s v)(hi:mb φ W): ∃φ',fY φ φ'/\mb φ' W/\(∀b o,¬Z b->φ' b o=φ b o)/\fe c.key φ' (v.vs s) s.ls/\ ∀j,j<6->φ' bc j=(v.vs s)[j]? :=by
 obtain ⟨φ1,k1,k2,k3,k4⟩:=h.n.still hi;obtain ⟨T,hh⟩:=h.heap;have ol: ∀o,φ1 bc o=none:=λo=>by rw [k3 bc o h.off];exact h.free o
 have hle:=Fq (vs:=v.vs s) ol;have hz: ∀b,v.n.ownBlock=some b->Z b:=by obtain ⟨I,cells,_,_,_,_,q5⟩:=h.n.row;exact λb hb=>(q5 b hb).1
 refine ⟨HQ φ1 bc (v.vs s),k1.trans hle,D7 k2 hh,λb o hb=> ?_,?_,λj hj=>by simp [HQ]⟩
 ·have h1:b≠bc:=λe=>hb (by rw [e];exact h.b7);unfold HQ;rw [if_neg h1];exact k3 b o λe=>hb (hz b e)
 ·have m:=k1.trans hle;exact .cons [_] _ _ _ (.i _ _) (.cons [_] _ _ _ (.i _ _) (.cons [_] _ _ _ (h.b.mono m) (.cons [_] _ _ _ (h.w.mono m) (.cons [_] _ _ _ (k4.mono hle) (.cons [_] _ _ _ (h.p.mono m) .nil)))))
end
def yZ (W:World)(b:Nat)(v:Int):Prop:= ∃T,W.heap[b]? =some (.cells #[.int .i64 v] T (0,0))
structure CI0 (c:Ctx) (φ0:Ph) (w0:World) (φ1:Ph) (bc bv br f ty:Nat) (s:CS) (v:Int) (W:World) (Z:Nat->Prop) (φ:Ph):Prop where
 cell:eM c Z φ W bc (KS f ty) s.ls
 iK:mb φ W
 tr:Trans (λb=>w0.heap.size<=b) φ0 w0 φ W
 base:fY φ1 φ
 sub: ∀b,Z b->w0.heap.size<=b
 hv:yZ W bv v
 zv: ¬Z bv
 fv: ∀o,φ bv o=none
 nv:w0.heap.size<=bv
 hr: ∃arr T,W.heap[br]? =some (.cells arr T (0,0))/\arr.size=6
 zr: ¬Z br
 fr: ∀o,φ br o=none
 nr:w0.heap.size<=br
 ne:br≠bv
def CI (c:Ctx) (φ0:Ph)(w0:World) (φ1:Ph)(bc bv br f ty:Nat)(s:CS)(v:Int)(W:World):Prop:= ∃Z φ,CI0 c φ0 w0 φ1 bc bv br f ty s v W Z φ
section
variable {P:Program}{c:Ctx} {φ0 φ1:Ph} {w0 W W':World}{bc bv br f ty:Nat} {s s':CS} {v v':Int}{Z:Nat->Prop} {φ:Ph}
theorem sI {W W':World}{b:Nat}{o:Nat}{u:Value}(h:W.cell? ⟨b,o,none⟩=some u)(hs:b<W.heap.size->W'.heap[b]? =W.heap[b]?):W'.cell? ⟨b,o,none⟩=some u:=by have hl:=aar W _ h;rw [adM (hs hl)];exact h
theorem CI0.same (h:CI0 c φ0 w0 φ1 bc bv br f ty s v W Z φ)(hs:W.heap.size<=W'.heap.size)(hr:Rest W W')(hold: ∀b,b<W.heap.size->b≠bv->W'.heap[b]? =W.heap[b]?)(hv:yZ W' bv v'):CI0 c φ0 w0 φ1 bc bv br f ty s v' W' (λb=>Z b/\b<W.heap.size) φ:=by
 have hzv: ∀b,Z b->b≠bv:=λb hb e=>h.zv (by rw [<-e];exact hb);obtain ⟨arr,T,Cq,Mo⟩:=h.hr;refine ⟨h.cell.frame hs λb hb hl=>hold b hl (hzv b hb),λb o u hu=> ?_,⟨h.tr.ph,λb hb hl=> ?_,h.tr.free,abj h.tr.size hs,h.tr.rest.trans hr⟩,h.base,λb hb=>h.sub b hb.1,hv,λhb=>h.zv hb.1,h.fv,h.nv,⟨arr,T,?_,Mo⟩,λhb=>h.zr hb.1,h.fr,h.nr,h.ne⟩
 ·refine sI (h.iK b o u hu) λhl=>hold b hl λe=> ?_;rw [e,h.fv] at hu;cases hu
 ·have zm:b<W.heap.size:=acb hl h.tr.size;rw [hold b zm (λe=>hb (by rw [e];exact h.nv))];exact h.tr.heap b hb hl
 ·rw [hold br (aN Cq) h.ne];exact Cq
theorem yZ.same {b:Nat}{v:Int}(h:yZ W b v)(he:b<W.heap.size->W'.heap[b]? =W.heap[b]?):yZ W' b v:=by obtain ⟨T,hT⟩:=h;exact ⟨T,by rw [he (aN hT)];exact hT⟩
theorem CI0.grow {φ2 φ3:Ph}(h:CI0 c φ0 w0 φ1 bc bv br f ty s v W Z φ)(ht:Trans (λb=>W.heap.size<=b) φ2 W φ3 W'):CI0 c φ0 w0 φ1 bc bv br f ty s v W' (λb=>Z b/\b<W.heap.size) φ:=h.same ht.size ht.rest (λb hl _=>ht.heap b (by omega) hl) (h.hv.same λhl=>ht.heap bv (by omega) hl)
theorem yZ.cell {b:Nat}{v:Int}(h:yZ W b v):W.cell? ⟨b,0,none⟩=some (.int .i64 v):=by obtain ⟨T,hT⟩:=h;rw [cell_of hT];rfl
theorem CI.call {g:Nat}{vs:List Value}{ms:List MV}{r:MV}(h:CI c φ0 w0 φ1 bc bv br f ty s v W)(hg:c.cR (c.key g)=true)(xG:c.sig (c.key g)=some (0,KS f ty))(hS:fh P c g (.cell (.func 0 s.ls)::ms) (.dx r s'.ls))(dy: ∀φ,fY φ1 φ->mb φ W->aY c.key φ vs ms):cm P g (.pointer (some ⟨bc,0,none⟩)::vs).toArray W λ_ W'=>CI c φ0 w0 φ1 bc bv br f ty s' v W':=by
 obtain ⟨Z,φ,h⟩:=h;have dO: ∀b,(∃arr T,W.heap[b]? =some (.cells arr T (0,0)))->b<W.heap.size:=λb ⟨arr,T,hb⟩=>aN hb;have pG:bv<W.heap.size:=by obtain ⟨T,hT⟩:=h.hv;exact aN hT
 obtain ⟨arr,T,Cq,Mo⟩:=h.hr;have hlr:=aN Cq;have pL:eM c (λb=>Z b\/W.heap.size<=b) φ W bc (KS f ty) s.ls:=h.cell.wide λb hb=> .inl hb;have uo:dz c (λb=>Z b\/W.heap.size<=b) φ W (c.key g) (.pointer (some ⟨bc,0,none⟩)::vs) (.cell (.func 0 s.ls)::ms):=by simp only [dz,hg,if_true];exact .inr (.inr ⟨0,KS f ty,0,s.ls,bc,xG,rfl,rfl,⟨_,_,rfl,⟨rfl,.rp bc 0 [] [] .nil (by simp)⟩,dy φ h.base h.iK⟩,pL⟩)
 refine (hS φ W (λb=>Z b\/W.heap.size<=b) _ (λb hb=> .inr hb) uo h.iK).imp ?_;rintro x W' ⟨φ',t1,t2,mP,pos',ks',afn,Pq,xy,O8,hc⟩;rw [xG] at xy;simp only [bB,aa9] at xy;obtain ⟨rfl,rfl⟩:=xy;simp only [adx,bB,adY,aeN] at O8;obtain ⟨rfl,_⟩:=O8;have hzv: ¬(Z bv\/W.heap.size<=bv):=λhb=>hb.elim h.zv (by omega);have hzr: ¬(Z br\/W.heap.size<=br):=λhb=>hb.elim h.zr (by omega);refine ⟨_,φ',hc,t2,h.tr.trans (t1.wD λb hb=>hb.elim (h.sub b) (λhb=>abj h.tr.size hb)),h.base.trans t1.ph,λb hb=>hb.elim (h.sub b) (λhb=>abj h.tr.size hb),h.hv.same λhl=>t1.heap bv hzv hl,hzv,λo=>by rw [t1.free bv o hzv];exact h.fv o,h.nv,⟨arr,T,by rw [t1.heap br hzr hlr];exact Cq,Mo⟩,hzr,λo=>by rw [t1.free br o hzr];exact h.fr o,h.nr,h.ne⟩
theorem CI.abO {φ2:Ph}(h:CI c φ0 w0 φ2 bc bv br f ty s v W)(hp:fY φ1 φ2):CI c φ0 w0 φ1 bc bv br f ty s v W:=by obtain ⟨Z,φ,h⟩:=h;exact ⟨Z,φ,{h with base:=hp.trans h.base}⟩
theorem sJ {g:Nat}{vs:List Value}{ms:List MV}{r:MV}(hg:c.cR (c.key g)=false)(hS:fh P c g ms r)(hr:isW r=false)(dy:aY c.key φ vs ms)(hi:mb φ W):cm P g vs.toArray W λx W'=> ∃φ',Trans (λb=>W.heap.size<=b) φ W φ' W'/\mb φ' W'/\gK c (λb=>W.heap.size<=b) φ' W' (c.key g) x r:=by
 have uo:dz c (λb=>W.heap.size<=b) φ W (c.key g) vs ms:=by simp only [dz,hg,AI,if_false];exact dy
 refine (hS φ W (λb=>W.heap.size<=b) _ (λb hb=>hb) uo hi).imp ?_;rintro x W' ⟨φ',t1,t2,t3⟩;exact ⟨φ',t1,t2,t3.of hr⟩
end
end Dn
/-
  A walk that lets all good ones hear one another: what it does, and its code. Conditions: none.
-/
namespace Dn
open Go
def xO:List MV->Option (List Bool)
 |[]=>some []
 | .b b::r=>(match xO r with|some l=>some (b::l)|none=>none)
 |_=>none
def afF:List MV->Option CS
 |[.i .i64 F,.i .i64 T,.list bl,.list wl,.list nl,.list pl]=>some ⟨F,T,bl,wl,nl,pl⟩
 |_=>none
def SH:Option MV->Option CS
 |some (.dx _ ls)=>afF ls
 |_=>none
def afG:Option MV->Option Int
 |some (.dx _ [.i .i64 v])=>some v
 |_=>none
def Lt (bl:List MV):Option (List Bool):=match xO bl with
 |some bs=>if bs.length<2^32 then some bs else none
 |none=>none
structure CK where
 cl:Nat
 ld:Nat
 is:Nat
 f1:Nat
 en:Nat
 de:Nat
 le:Nat
 sz:Nat
section
variable (g:Nat->List MV->Option MV)(k:CK)
def SI (s:CS)(v:Int):Option Int:=match g k.ld [.agg [.i .i64 s.F,.i .i64 s.T],.i .i64 v] with
 |some (.i .i64 l)=>some l
 |_=>none
def D8 (s:CS)(v:Int):Option (Sum Int Int):=match SI g k s v with
 |some l=>(match g k.is [.agg s.ls,.i .i64 l,.b false] with
  |some (.b b)=>some (if b then .inr v else .inl (aaU .i64 (v+1)))
  |_=>none)
 |none=>none
def ZH (s:CS)(i:Nat)(v:Int):Option Int:=afG (g k.f1 [.i .i64 i,.cell (.func 0 [.i .i64 v]),.rp s.ls])
def ZI (v:Int)(i:Nat)(s:CS):Option CS:=SH (g k.en [.cell (.func 0 s.ls),.i .i64 i,.i .i64 v])
def Oz (m:MV)(i:Nat)(s:CS):Option CS:=SH (g k.de [.cell (.func 0 s.ls),.i .i64 i,m])
def Uo (v:Int)(p:Int×CS):Option (Sum (Int×CS) CS):=if p.1<(p.2.pl.length:Int) then
  (match UU p.2.pl p.1,Lt p.2.bl with
  |some m,some bs=>bif G0 m&&aa8 m.w k.sz then (match rO (Oz g k m) bs 0 p.2 with
   |some s=>(match SI g k s v with
    |some l=>(match SH (g k.le [.cell (.func 0 s.ls),.i .i64 l]) with
     |some s=>some (.inl (aaU .i64 (p.1+1),s))
     |none=>none)
    |none=>none)
   |none=>none) else none
  |_,_=>none)
 else some (.inr p.2)
end
theorem OA: ∀{l:List MV} {bs:List Bool},xO l=some bs->l=bs.map .b:=by
 intro l;induction l with
 |nil=>intro bs h;simp [xO] at h;subst h;rfl
 |cons x r ih=>
  intro bs h;cases x<;>simp only [xO] at h<;>try cases h
  cases hr:xO r with
  |none=>rw [hr] at h;cases h
  |some l=>rw [hr] at h;simp at h;subst h;rw [ih hr];rfl
theorem M2 {l:List MV}{bs:List Bool}(h:Lt l=some bs):l=bs.map .b/\bs.length<2^32:=by
 unfold Lt at h;cases hb:xO l with
 |none=>rw [hb] at h;cases h
 |some q=>
  rw [hb] at h;by_cases hq:q.length<2^32
  ·simp only [hq,if_true,bB] at h;subst h;exact ⟨OA hb,hq⟩
  ·simp [hq] at h
theorem VU {l:List MV}{s:CS}(h:afF l=some s):l=s.ls:=by
 unfold afF at h;split at h
 ·simp at h;subst h;rfl
 ·cases h
theorem Fs {x:Option MV}{s:CS}(h:SH x=some s): ∃r,x=some (.dx r s.ls):=by
 unfold SH at h;split at h
 ·exact ⟨_,by rw [VU h]⟩
 ·cases h
theorem VV {x:Option MV}{v:Int}(h:afG x=some v): ∃r,x=some (.dx r [.i .i64 v]):=by
 unfold afG at h;split at h
 ·simp at h;subst h;exact ⟨_,rfl⟩
 ·cases h
def ZJ (r:Nat->Nat)(o:Nat->Oper):Code:= .seq (.region (r 0) #[o 0,o 1] false) (.seq (.region (r 1) #[o 2,o 3] false) (.seq (.region (r 2) #[o 4,o 5,o 6,o 7,o 8,o 9,o 10] false) (.seq (.region (r 3) #[o 11,o 12] false) (.seq (.region (r 4) #[o 13,o 14,o 15] false) (.seq (.block 0 (.loop (.seq (.seq (.region (r 5) #[o 16,o 17,o 18,o 19,o 20,o 21,o 22] true) (.cond (.tmp 21) .skip (.exit 0))) (.block 1 (.region (r 6) #[o 23,o 24,o 25] false))))) (.seq (.seq (.region (r 7) #[o 26,o 27] false) (.cond (.tmp 25) (.seq (.region (r 8) #[o 28,o 29] false) .ret) .skip)) (.seq (.region (r 9) #[o 30,o 31,o 32] false) (.seq (.seq (.region (r 10) #[o 33] false) (.block 2 (.loop (.seq (.seq (.region (r 11) #[o 34,o 35,o 36,o 37,o 38] false) (.cond (.tmp 34) .skip (.exit 2))) (.seq (.block 3 (.seq (.region (r 13) #[o 39,o 40,o 41,o 42,o 43,o 44,o 45] false) (.seq (.region (r 14) #[o 46,o 47,o 48] false) (.region (r 15) #[o 49,o 50,o 51,o 52,o 53,o 54] true)))) (.region (r 12) #[o 55,o 56,o 57] false)))))) (.seq (.region (r 16) #[o 58,o 59] false) .ret)))))))))
structure aco (tS tP ti tN tM tm tZ tB tb tf fCl f1 fEa ZK fIs f2 f3 fLe:Nat) (o:Nat->Oper):Prop where
 h0:ai (o 0) 1 (.box tS (.tmp 0))
 h1:ai (o 1) 2 (.alloc tS)
 h2:ai (o 2) 3 (.alloc tP)
 h3:fN (o 3) (.store tP (.tmp 3) (.tmp 1))
 h4:ai (o 4) 7 (.fieldAddr tS (.tmp 1) 3)
 h5:ai (o 5) 8 (.load tN (.tmp 7))
 h6:ai (o 6) 9 (.call {callee:= .value (.func fCl),args:= #[.tmp 8],argTypes:= #[tN]})
 h7:ai (o 7) 10 (.fieldAddr tS (.tmp 1) 4)
 h8:fN (o 8) (.store tM (.tmp 10) (.const (.slice none 0 0)))
 h9:ai (o 9) 11 (.fieldAddr tS (.tmp 1) 3)
 wg:fN (o 10) (.store tN (.tmp 11) (.tmp 9))
 zt:ai (o 11) 4 (.alloc ti)
 ER:fN (o 12) (.store ti (.tmp 4) (.const (.int .i64 0)))
 Dp:ai (o 13) 12 (.load tP (.tmp 3))
 Dq:ai (o 14) 13 (.makeFunc (.func f1) #[] #[.tmp 4,.tmp 1])
 Dr:ai (o 15) 14 (.call {callee:= .value (.func fEa),args:= #[.tmp 12,.tmp 13],argTypes:= #[tP,tf]})
 Bl:ai (o 16) 15 (.load tS (.tmp 1))
 DX:ai (o 17) 16 (.fieldAddr tS (.tmp 1) 0)
 Fl:ai (o 18) 17 (.load tZ (.tmp 16))
 HL:ai (o 19) 18 (.load ti (.tmp 4))
 Lr:ai (o 20) 19 (.call {callee:= .value (.func ZK),args:= #[.tmp 17,.tmp 18],argTypes:= #[tZ,ti]})
 Fm:ai (o 21) 20 (.call {callee:= .value (.func fIs),args:= #[.tmp 15,.tmp 19,.const (.bool false)],argTypes:= #[tS,ti,tB]})
 Fo:ai (o 22) 21 (.unOp .not tB (.tmp 20))
 KW:ai (o 23) 22 (.load ti (.tmp 4))
 KX:ai (o 24) 23 (.binOp .add ti (.tmp 22) (.const (.int .i64 1)) ti)
 KY:fN (o 25) (.store ti (.tmp 4) (.tmp 23))
 Ol:ai (o 26) 24 (.load ti (.tmp 4))
 Qj:ai (o 27) 25 (.binOp .gtr ti (.tmp 24) (.const (.int .i64 100000)) ti)
 Rl:ai (o 28) 26 (.load tS (.tmp 1))
 Rm:fN (o 29) (.store tS (.tmp 2) (.tmp 26))
 Om:ai (o 30) 27 (.load tP (.tmp 3))
 Pe:ai (o 31) 28 (.makeFunc (.func f2) #[] #[.tmp 3,.tmp 4])
 Pf:ai (o 32) 29 (.call {callee:= .value (.func fEa),args:= #[.tmp 27,.tmp 28],argTypes:= #[tP,tf]})
 Pg:ai (o 33) 5 (.assign (.const (.int .i64 0)))
 Qk:ai (o 34) 30 (.move (.tmp 5))
 Rn:ai (o 35) 31 (.fieldAddr tS (.tmp 1) 4)
 Sx:ai (o 36) 32 (.load tM (.tmp 31))
 Ro:ai (o 37) 33 (.call {callee:= .builtin .len,args:= #[.tmp 32],argTypes:= #[tM]})
 Sy:ai (o 38) 34 (.binOp .lss ti (.tmp 30) (.tmp 33) ti)
 Zd:ai (o 39) 37 (.fieldAddr tS (.tmp 1) 4)
 Ze:ai (o 40) 38 (.load tM (.tmp 37))
 Zf:ai (o 41) 39 (.move (.tmp 5))
 Zg:ai (o 42) 40 (.indexAddr tM (.tmp 38) (.tmp 39))
 Zh:ai (o 43) 41 (.load tm (.tmp 40))
 Zj:ai (o 44) 6 (.alloc tm)
 h45:fN (o 45) (.store tm (.tmp 6) (.tmp 41))
 h46:ai (o 46) 42 (.load tP (.tmp 3))
 Zk:ai (o 47) 43 (.makeFunc (.func f3) #[] #[.tmp 3,.tmp 6])
 Vf:ai (o 48) 44 (.call {callee:= .value (.func fEa),args:= #[.tmp 42,.tmp 43],argTypes:= #[tP,tf]})
 Rq:ai (o 49) 45 (.load tP (.tmp 3))
 Sz:ai (o 50) 46 (.fieldAddr tS (.tmp 1) 0)
 SA:ai (o 51) 47 (.load tZ (.tmp 46))
 Rr:ai (o 52) 48 (.load ti (.tmp 4))
 Rs:ai (o 53) 49 (.call {callee:= .value (.func ZK),args:= #[.tmp 47,.tmp 48],argTypes:= #[tZ,ti]})
 Ql:ai (o 54) 50 (.call {callee:= .value (.func fLe),args:= #[.tmp 45,.tmp 49],argTypes:= #[tP,ti]})
 h55:ai (o 55) 35 (.move (.tmp 5))
 h56:ai (o 56) 36 (.binOp .add ti (.tmp 35) (.const (.int .i64 1)) ti)
 h57:ai (o 57) 5 (.assign (.tmp 36))
 h58:ai (o 58) 51 (.load tS (.tmp 1))
 h59:fN (o 59) (.store tS (.tmp 2) (.tmp 51))
end Dn
/-
  The walk's pieces: who leads. Conditions: none.
-/
namespace Dn
open Go
structure CN where
 tS:Nat
 tP:Nat
 ti:Nat
 tN:Nat
 tM:Nat
 tm:Nat
 tZ:Nat
 tB:Nat
 tb:Nat
 tf:Nat
 fCl:Nat
 f1:Nat
 fEa:Nat
 ZK:Nat
 fIs:Nat
 f2:Nat
 f3:Nat
 fLe:Nat
 fEn:Nat
 fDe:Nat
 f:Nat
 gG:Nat
 ty:Nat
 sz:Nat
def CN.k (n:CN):CK:=⟨n.fCl,n.ZK,n.fIs,n.f1,n.fEn,n.fDe,n.fLe,n.sz⟩
structure pY (P:Program) (c:Ctx) (g:Nat->List MV->Option MV) (n:CN) (fn:Func) (r:Nat->Nat) (o:Nat->Oper):Prop where
 pos:P.funcs[n.f]? =some fn
 name:(fn.name== "runtime.NumGoroutine")=false
 tmps:fn.ntmps=52
 res:fn.results= #[.cell 2 n.tS]
 body:fn.body=some (ZJ r o)
 ops:aco n.tS n.tP n.ti n.tN n.tM n.tm n.tZ n.tB n.tb n.tf n.fCl n.f1 n.fEa n.ZK n.fIs n.f2 n.f3 n.fLe o
 each: ∃fnE rE oE,ZC P n.fEa n.tS n.tb n.tB n.ti fnE rE oE
 c2: ∃M3 r2 o2,ZE P n.f2 n.fEn n.tP n.ti M3 r2 o2
 c3: ∃fn3 r3 o3,ZE P n.f3 n.fDe n.tP n.tm fn3 r3 o3
 hT:fZ P c.ti
 Zl:P.follows .mixedOrders=true
 d5:pS c #[o 16,o 17,o 18,o 19,o 20,o 21,o 22] [0,1,2,3,4,5,6]=true
 d15:pS c #[o 49,o 50,o 51,o 52,o 53,o 54] [0,1,2,3,4,5]=true
 fl:c.fl=[]
 key: ∀f,c.key f=f
 snd: ∀f ms r,g f ms=some r->fh P c f ms r
 tyS: ∃I,c.tv n.tS=some I/\I.st=true/\I.ES=[0,2,3,4,5]/\I.size=6
 tyP: ∃I,c.tv n.tP=some I/\I.st=false/\I.size=1
 tyi: ∃I,c.tv n.ti=some I/\I.st=false/\I.size=1
 tyN: ∃I,c.tv n.tN=some I/\I.st=false/\I.size=1
 tyM: ∃I,c.tv n.tM=some I/\I.st=false/\I.size=1
 tyB: ∃I,c.tv n.tB=some I/\I.st=false/\I.size=1
 tyb: ∃I,c.tv n.tb=some I/\I.st=false/\I.size=1
 tym: ∃I,c.tv n.tm=some I/\I.st=true/\I.size=n.sz
 tyZ: ∃I,c.tv n.tZ=some I/\I.st=true/\I.size=2
 aiO:P.underlying n.tM=some (.slice n.tm)
 gv:c.cR n.fCl=false/\c.cR n.ZK=false/\c.cR n.fIs=false
 gvF:c.cR n.f=false
 gvC:c.cR n.fEn=true/\c.cR n.fDe=true/\c.cR n.fLe=true/\c.cR n.f1=true
 sig:c.sig n.fEn=some (0,KS n.gG n.ty)/\c.sig n.fDe=some (0,KS n.gG n.ty)/\c.sig n.fLe=some (0,KS n.gG n.ty)
 aiQ:c.sig n.f1=some (1,[.k (.i .i64)])
 mY:c.mY n.fCl=n.ty
def aiR {α β:Type}:Sum α β->Bool
 | .inl _=>true
 | .inr _=>false
structure Fv (σ:Nat->Value) (bc br bd bv:Nat):Prop where
 h1:σ 1= .pointer (some ⟨bc,0,none⟩)
 h2:σ 2= .pointer (some ⟨br,0,none⟩)
 h3:σ 3= .pointer (some ⟨bd,0,none⟩)
 h4:σ 4= .pointer (some ⟨bv,0,none⟩)
theorem oX {c:Ctx}{o:Oper}(h:c.fl=[]):still c o=false:=by
 unfold still;split
 ·rw [h];rfl
 ·rfl
theorem wOf {w:World}{g off:Nat}{vs:List Value}{arr:List Value}{T:TypeId}(hh:w.heap[g]? =some (.cells arr.toArray T (0,0)))(h: ∀j,j<vs.length->arr[off+j]? =vs[j]?):w.rangeAt g off vs:=by intro j v hj;rw [cell_of hh,List.getElem?_toArray,h j (aaC.1 hj).1];exact hj
theorem OB {P:World->Prop} {φ φ':Ph} {W W':World}(h:Trans (λb=>W.heap.size<=b) φ W φ' W'):cL W W':=⟨h.size,λb hb=>h.heap b (by omega) hb,h.rest⟩
theorem Qt {key:Nat->Nat} {φ:Ph}{v:Value}{n:Int}(h:cV key φ v (.i .i64 n)):v= .int .i64 n:=by obtain ⟨_,h⟩:=h;generalize yU:[v]=l at h;cases h;simpa using yU
theorem mQ {key:Nat->Nat} {φ:Ph}{n:Int}:cV key φ (.int .i64 n) (.i .i64 n):=⟨rfl,.i _ _⟩
theorem afJ {key:Nat->Nat} {φ:Ph}{b:Bool}:cV key φ (.bool b) (.b b):=⟨rfl,.b _⟩
theorem s9 {key:Nat->Nat} {φ:Ph}{vs:List Value}{ms:List MV}(h:fe key φ vs ms):cV key φ (.agg vs.toArray) (.agg ms):=⟨vs.toArray,rfl,by simpa using h⟩
section
variable {P:Program}{c:Ctx}{g:Nat->List MV->Option MV}{n:CN}{fn:Func}{r:Nat->Nat}{o:Nat->Oper} {φ0 φ1:Ph}{w0 W:World}{bc br bd bv:Nat} {s s':CS} {v v' l:Int}{a:Act} {σ:Nat->Value}{Q:Exit->Act->World->Prop}
abbrev BI (c:Ctx)(n:CN) (φ0:Ph)(w0:World) (φ1:Ph)(bc bv br:Nat)(s:CS)(v:Int)(W:World):Prop:=CI c φ0 w0 φ1 bc bv br n.gG n.ty s v W
theorem M4 (h:SI g n.k s v=some l):g n.ZK [.agg [.i .i64 s.F,.i .i64 s.T],.i .i64 v]=some (.i .i64 l):=by
 unfold SI at h;split at h
 ·rename_i l' hl;simp only [bB] at h;subst h;exact hl
 ·cases h
theorem acp (H:pY P c g n fn r o)(hI:BI c n φ0 w0 φ1 bc bv br s v W)(af:Tm a 52 σ)(hF:Fv σ bc br bd bv){x:Sum Int Int}(hx:D8 g n.k s v=some x)(hQ: ∀a W' σ',BI c n φ0 w0 φ1 bc bv br s v W'->Tm a 52 σ'->Fv σ' bc br bd bv->σ' 21= .bool (aiR x)->Q .normal a W'):(aaR (r 5) #[o 16,o 17,o 18,o 19,o 20,o 21,o 22] true).wp P Q a W:=by
 unfold D8 at hx;cases hl:SI g n.k s v with
 |none=>rw [hl] at hx;cases hx
 |some l=>
 rw [hl] at hx;dsimp only at hx;have TR:=M4 hl;split at hx;rotate_left
 ·cases hx
 rename_i b hgb;obtain ⟨Z,φ,h⟩:=hI;obtain ⟨u,hu⟩:=h.cell.six;obtain ⟨φt,k1,k2,k3,k4,k5⟩:=hu.still h.iK;obtain ⟨T,hh⟩:=hu.heap;obtain ⟨IS,s1,s2,s3,s4⟩:=H.tyS;obtain ⟨IZ,z1,z2,z3⟩:=H.tyZ;obtain ⟨Ii,i1,i2,i3⟩:=H.tyi;refine D6 (c:=c) (φ:=φt) (ord:=[0,1,2,3,4,5,6]) H.Zl H.d5 λlisted lY=> ?_;have t0:Trans (λb=>W.heap.size<=b) φt W φt {W with drawn:=W.drawn+1}:=⟨.refl _,λ_ _ _=>rfl,λ_ _ _=>rfl,OF _,⟨rfl,rfl,rfl⟩⟩
 obtain ⟨W0,Ls⟩: ∃W0,W0=({W with drawn:=W.drawn+1}:World):=⟨_,rfl⟩
 rw [<-Ls] at t0⊢;have Qu:W0.heap[bc]? =some (.cells (u.vs s).toArray T (0,0)):=by rw [Ls];exact hh
 have Ri:yZ W0 bv v:=by rw [Ls];exact h.hv
 have k20:mb φt W0:=by rw [Ls];exact k2
 have hrS: ∀w',cL W0 w'->w'.rangeAt bc 0 (u.vs s):=λw' hg=>wOf (by rw [hg.pF bc (aN Qu)];exact Qu) (by simp);have hrZ: ∀w',cL W0 w'->w'.rangeAt bc 0 [.int .i64 s.F,.int .i64 s.T]:=λw' hg=>wOf (arr:=u.vs s) (by rw [hg.pF bc (aN Qu)];exact Qu) (by intro j hj;match j,hj with|0,_=>rfl|1,_=>rfl);refine lY.read (v:= .agg (u.vs s).toArray) rfl H.ops.Bl (by decide) (by simp [dY,H.ops.Bl.op]) (by simp [dX,H.ops.Bl.op]) (oX H.fl) (by simp [qR,H.ops.Bl.op]) af k20 (λw' hg=>ew H.ops.Bl (by show (BY n.tS (σ 1)).run P w'=_;rw [hF.h1];exact jg H.hT s1 s2 (by rw [s4];rfl) (hrS w' (hg (by simp [kw,H.ops.Bl.op]))))) (λa af lY=> ?_);refine lY.read (v:= .pointer (some ⟨bc,0+0,none⟩)) rfl H.ops.DX (by decide) (by simp [dY,H.ops.DX.op]) (by simp [dX,H.ops.DX.op]) (oX H.fl) (by simp [qR,H.ops.DX.op]) af k20 (λw' _=>gm H.ops.DX H.hT s1 s2 (by rw [s3];rfl) hF.h1 w') (λa af lY=> ?_);refine lY.read (v:= .agg #[.int .i64 s.F,.int .i64 s.T]) rfl H.ops.Fl (by decide) (by simp [dY,H.ops.Fl.op]) (by simp [dX,H.ops.Fl.op]) (oX H.fl) (by simp [qR,H.ops.Fl.op]) af k20 (λw' hg=>ew H.ops.Fl (by exact jg H.hT z1 z2 (vs:=[.int .i64 s.F,.int .i64 s.T]) (by rw [z3];rfl) (hrZ w' (hg (by simp [kw,H.ops.Fl.op]))))) (λa af lY=> ?_);refine lY.read (v:= .int .i64 v) rfl H.ops.HL (by decide) (by simp [dY,H.ops.HL.op]) (by simp [dX,H.ops.HL.op]) (oX H.fl) (by simp [qR,H.ops.HL.op]) af k20 (λw' hg=>ew H.ops.HL (by show (BY n.ti (σ 4)).run P w'=_;rw [hF.h4];exact cr H.hT i1 i2 i3 ((Ri.same λhl=>(hg (by simp [kw,H.ops.HL.op])).pF bv hl).cell))) (λa af lY=> ?_);have TY: ∀(d:Nat) (op:Op) (p:Oper),ai p d op->(∀t,op≠ .alloc t)->Dw p=false:=by intro d op p hp df;unfold Dw;rw [hp.op];cases op<;>first|rfl|exact absurd rfl (df _)
 have Dm:cm P n.ZK #[.agg #[.int .i64 s.F,.int .i64 s.T],.int .i64 v] W0 λx W'=> ∃φ',Trans (λb=>W0.heap.size<=b) φt W0 φ' W'/\mb φ' W'/\gK c (λb=>W0.heap.size<=b) φ' W' (c.key n.ZK) x (.i .i64 l):=sJ (vs:=[.agg #[.int .i64 s.F,.int .i64 s.T],.int .i64 v]) (by rw [H.key];exact H.gv.2.1) (H.snd _ _ _ TR) rfl ⟨_,_,rfl,s9 (vs:=[.int .i64 s.F,.int .i64 s.T]) (.cons [_] _ _ _ (.i _ _) (.cons [_] _ _ _ (.i _ _) .nil)),_,_,rfl,mQ,rfl⟩ k20;refine lY.VT (o:=o 20) rfl (λy hy p hp=> ?_) (by simp [dY,H.ops.Lr.op]) (af.Ul rfl H.ops.Lr (by decide) (uX H.ops.Lr rfl rfl rfl _) Dm ?_)
 ·rcases aba.1 hy with rfl|hy
  ·cases hp;exact TY _ _ _ H.ops.Fm (by simp)
  ·have:y=6:=by simpa using hy
   subst this;cases hp;exact TY _ _ _ H.ops.Fo (by simp)
 rintro x1 W1 a ⟨φ2,t1,m1,mP⟩ af;have Dl:x1= .int .i64 l:=Qt mP;subst Dl;have k21:mb φt W1:=λb o u hu=>m1 b o u (t1.ph b o u hu);refine ⟨⟨λ_ _=>(OB (P:=λ_=>True) t1).for,k21⟩,?_⟩;obtain ⟨_,_,_,OC,_⟩:=lY.facts (o:=o 20) rfl;have Yk:cm P n.fIs #[.agg (u.vs s).toArray,.int .i64 l,.bool false] W1 λx W'=> ∃φ',Trans (λb=>W1.heap.size<=b) φ2 W1 φ' W'/\mb φ' W'/\gK c (λb=>W1.heap.size<=b) φ' W' (c.key n.fIs) x (.b b):=sJ (vs:=[.agg (u.vs s).toArray,.int .i64 l,.bool false]) (by rw [H.key];exact H.gv.2.2) (H.snd _ _ _ hgb) rfl ⟨_,_,rfl,s9 (k4.mono t1.ph),_,_,rfl,mQ,_,_,rfl,afJ,rfl⟩ m1;refine OC.VT (o:=o 21) rfl (λy hy p hp=> ?_) (by simp [dY,H.ops.Fm.op]) (af.Ul rfl H.ops.Fm (by decide) (HP H.ops.Fm rfl rfl rfl rfl _) Yk ?_)
 ·have:y=6:=by simpa using hy
  subst this;cases hp;exact TY _ _ _ H.ops.Fo (by simp)
 rintro x2 W2 a ⟨φ3,t2,m2,aiT⟩ af;have PA:x2= .bool b:=DQ aiT;subst PA;have k22:mb φt W2:=λb o u hu=>m2 b o u (t2.ph b o u (t1.ph b o u hu));refine ⟨⟨λ_ _=>(OB (P:=λ_=>True) t2).for,k22⟩,?_⟩;obtain ⟨_,_,_,afK,_⟩:=OC.facts (o:=o 21) rfl;refine afK.read (v:= .bool (!b)) rfl H.ops.Fo (by decide) (by simp [dY,H.ops.Fo.op]) (by simp [dX,H.ops.Fo.op]) (oX H.fl) (by simp [qR,H.ops.Fo.op]) af k22 (λw' _=>DU H.ops.Fo rfl w') (λa af lY=> ?_);refine lY.done ?_;have nM:W0.heap.size=W.heap.size:=by rw [Ls]
 have tt:Trans (λb=>W.heap.size<=b) φt W φ3 W2:=(t0.trans (t1.wD λb hb=>by omega)).trans (t2.wD λb hb=>by have:=t1.size;omega);refine hQ a W2 _ ⟨_,φ,h.grow tt⟩ af ⟨hF.h1,hF.h2,hF.h3,hF.h4⟩ ?_;simp only [bB] at hx;subst hx;cases b<;>rfl
end
end Dn
/-
  The walk's pieces: the search for a leader; each one's step. Conditions: none.
-/
namespace Dn
open Go
theorem GG {key:Nat->Nat} {φ:Ph}{v:Value}{bs:List Bool}(h:gk key φ [v] (.list (bs.map .b))): ∃ad cp,v= .slice ad bs.length cp/\(0<bs.length-> ∃aR off,ad=some ⟨aR,off,none⟩/\ ∀k (h:k<bs.length),φ aR (off+k)=some (.bool bs[k])):=by
 generalize hv:[v]=l at h;generalize hm:bs.map MV.b=xs at h;cases h with
 |list a cap _ aR off Dk f h1 h2 h3 h4 h5=>
  have hl:xs.length=bs.length:=by rw [<-hm];simp
  refine ⟨a,cap,by simpa [hl] using hv,λh0=>⟨aR,off,h2 (by omega),λk hk=> ?_⟩⟩;have hk':k<xs.length:=by omega
  have hx:xs[k]= .b bs[k]:=by subst hm;simp
  have hr:=h5 k hk';rw [hx] at hr;have hlen:=h3 k hk';have h6:=h4 k 0 hk';generalize hf:f k=fk at hr hlen h6;cases hr;have he:Dk=1:=by rw [<-hlen];rfl
  subst he;have:=h6 (by decide);simpa using this
section
variable {P:Program}{c:Ctx}{g:Nat->List MV->Option MV}{n:CN}{fn:Func}{r:Nat->Nat}{o:Nat->Oper} {φ0 φ1:Ph} {w0 W W':World}{bc br bd bv:Nat} {s s':CS} {v v' l:Int}{a:Act} {σ:Nat->Value}{Q:Exit->Act->World->Prop}
theorem acq {I:TI}(h:yZ W bv v)(hs:I.size=1)(T:TypeId)(hT:W.heap[bv]? =some (.cells #[.int .i64 v] T (0,0))): yZ (W.setRow bv ((#[.int .i64 v]:Array Value).toList.take 0++(ae0 .i64 v').cells.toList++(#[.int .i64 v]:Array Value).toList.drop (0+I.size)).toArray) bv v':=by refine ⟨T,?_⟩;rw [eH _ hT,hs];rfl
theorem acr (H:pY P c g n fn r o)(hI:BI c n φ0 w0 φ1 bc bv br s v W)(af:Tm a 52 σ)(hF:Fv σ bc br bd bv)(hQ: ∀a W' σ',BI c n φ0 w0 φ1 bc bv br s (aaU .i64 (v+1)) W'->Tm a 52 σ'->Fv σ' bc br bd bv->Q .normal a W'):(aaR (r 6) #[o 23,o 24,o 25] false).wp P Q a W:=by obtain ⟨Z,φ,h⟩:=hI;obtain ⟨Ii,i1,i2,i3⟩:=H.tyi;obtain ⟨kR,hc⟩:=aV i1;obtain ⟨T,hT⟩:=h.hv;refine wp_region ?_;rw [show sh (#[o 23,o 24,o 25]:Array Oper).size=[0,1,2] from rfl];refine af.step (v:= .int .i64 v) rfl H.ops.KW (by decide) (ew H.ops.KW (by show (BY n.ti (σ 4)).run P W=_;rw [hF.h4];exact cr H.hT i1 i2 i3 h.hv.cell)) (λa af=> ?_);refine af.step rfl H.ops.KX (by decide) (Um (p:=v) (q:=1) H.ops.KX rfl rfl _) (λa af=> ?_);refine af.wG rfl H.ops.KY (xN (v:= .int .i64 (aaU .i64 (v+1))) (g:=bv) (off:=0) H.ops.KY (H.hT _ _ kR) hc hF.h4 rfl (by simp [abB,i3]) (by simp [abB,Value.oneCell']) hT (by rw [i3];simp)) ?_;refine hQ a _ _ ⟨_,φ,h.same (by rw [setRow_size];exact OF _) (Rest.setRow _ _ _) (λb _ df=>setRow_other _ _ _ _ df) (acq h.hv i3 T hT)⟩ af ⟨hF.h1,hF.h2,hF.h3,hF.h4⟩
abbrev Jr (r:Nat->Nat)(o:Nat->Oper):Code:= .seq (.seq (.region (r 5) #[o 16,o 17,o 18,o 19,o 20,o 21,o 22] true) (.cond (.tmp 21) .skip (.exit 0))) (.block 1 (.region (r 6) #[o 23,o 24,o 25] false))
theorem Qv (H:pY P c g n fn r o)(hQ: ∀a W' σ',BI c n φ0 w0 φ1 bc bv br s v' W'->Tm a 52 σ'->Fv σ' bc br bd bv->Q .normal a W'): ∀(m:Nat) (v:Int) (W:World) (a:Act) (σ:Nat->Value),iter (D8 g n.k s) m v=some v'->BI c n φ0 w0 φ1 bc bv br s v W->Tm a 52 σ->Fv σ bc br bd bv->aft P (Jr r o) (ady 0 Q) m a W:=by
 intro m;induction m with
 |zero=>intro v W a σ h;simp [iter] at h
 |succ m ih=>
  intro v W a σ h hI af hF;rw [rounds_succ];simp only [iter] at h;cases hx:D8 g n.k s v with
  |none=>rw [hx] at h;cases h
  |some x=>
  rw [hx] at h;refine wp_seq (wp_seq (acp H hI af hF hx ?_));intro a W2 σ2 zY DY Fe Fm;cases x with
  |inl v2=>
   simp only at h;refine DY.cond (b:=true) Fm ?_;simp only [if_true];refine wp_skip (wp_block (acr H zY DY Fe ?_));intro a W3 σ3 hI3 He hF3;have KR:v2=aaU .i64 (v+1):=by
    unfold D8 at hx;split at hx
    ·split at hx
     ·rename_i b _;simp only [bB] at hx;cases b
      ·simpa using hx.symm
      ·simp at hx
     ·cases hx
    ·cases hx
   rw [<-KR] at hI3;exact ih v2 W3 a σ3 h hI3 He hF3
  |inr v2=>
   simp only [bB] at h;refine DY.cond (b:=false) Fm ?_;simp only [AI,if_false];refine wp_exit ?_;have KR:v2=v:=by
    unfold D8 at hx;split at hx
    ·split at hx
     ·rename_i b _;simp only [bB] at hx;cases b
      ·simp at hx
      ·simpa using hx.symm
     ·cases hx
    ·cases hx
   rw [<-h,KR] at hQ;exact hQ a W2 σ2 zY DY Fe
theorem VW (H:pY P c g n fn r o)(hl:Loop (D8 g n.k s) v=some v')(hI:BI c n φ0 w0 φ1 bc bv br s v W)(af:Tm a 52 σ)(hF:Fv σ bc br bd bv)(hQ: ∀a W' σ',BI c n φ0 w0 φ1 bc bv br s v' W'->Tm a 52 σ'->Fv σ' bc br bd bv->Q .normal a W'): (Code.block 0 (.loop (Jr r o))).wp P Q a W:=by
 obtain ⟨m,hm⟩: ∃m,iter (D8 g n.k s) m v=some v':=by
  unfold Loop at hl;split at hl
  ·rename_i hex;have:=abv hex;simp only [bB] at hl;rw [hl] at this;exact this
  ·cases hl
 exact wp_block (wp_loop_rounds m (Qv H hQ m v W a σ hm hI af hF))
theorem ad9 (H:pY P c g n fn r o){step:Nat->CS->Option CS}{gf:Nat}{lb:Array Value}{bs:List Bool}(hI:BI c n φ0 w0 φ1 bc bv br s v W)(hb:Lt s.bl=some bs)(hd:rO step bs 0 s=some s')(rM: ∀φ2,fY φ1 φ2-> ∀(s s':CS)(W:World)(i:Nat),i<bs.length->BI c n φ0 w0 φ2 bc bv br s v W->step i s=some s'->cm P gf (#[.int .i64 (i:Int)]++lb) W λ_ W'=>BI c n φ0 w0 φ2 bc bv br s' v W'): cm P n.fEa #[.pointer (some ⟨bc,0,none⟩),.func (.func gf) #[] lb] W λ_ W'=>BI c n φ0 w0 φ1 bc bv br s' v W':=by
 obtain ⟨Z,φ,h⟩:=hI;obtain ⟨u,hu⟩:=h.cell.six;obtain ⟨T,hh⟩:=hu.heap;obtain ⟨Gp,hlen⟩:=M2 hb;have hrb:=hu.b;rw [Gp] at hrb;obtain ⟨ad,cp,hub,a8⟩:=GG hrb;obtain ⟨fnE,rE,oE,hE⟩:=H.each;obtain ⟨IS,s1,s2,s3,s4⟩:=H.tyS;obtain ⟨IB,b1,b2,b3⟩:=H.tyB;obtain ⟨Ib,c1,c2,c3⟩:=H.tyb;have hI':BI c n φ0 w0 φ bc bv br s v W:=⟨Z,φ,{h with base:= .refl φ}⟩
 refine (M1 hE H.hT s1 s2 (by rw [s3];rfl) c1 c2 c3 b1 b2 b3 (Inv:=λs W=>BI c n φ0 w0 φ bc bv br s v W) (step:=step) (bl:=bs) (ad:=ad) (cp:=cp) (rM φ h.base) ?_ ?_ (by omega) hI' hd).imp λ_ W' hW'=>hW'.abO h.base
 ·rw [cell_of hh];show some u.b=_;rw [hub]
 ·intro h0;obtain ⟨aR,off,e1,e2⟩:=a8 h0;refine ⟨aR,off,e1,?_⟩;rintro s2 W2 ⟨Z2,φ2,h2⟩ k hk;exact h2.iK _ _ _ (h2.base _ _ _ (e2 k hk))
theorem SJ (H:pY P c g n fn r o){bs:List Bool}(hI:BI c n φ0 w0 φ1 bc bv br s v W)(Up:φ1 bd 0=some (.pointer (some ⟨bc,0,none⟩)))(hb:Lt s.bl=some bs)(hd:rO (ZI g n.k v) bs 0 s=some s'): cm P n.fEa #[.pointer (some ⟨bc,0,none⟩),.func (.func n.f2) #[] #[.pointer (some ⟨bd,0,none⟩),.pointer (some ⟨bv,0,none⟩)]] W λ_ W'=>BI c n φ0 w0 φ1 bc bv br s' v W':=by refine ad9 H hI hb hd ?_;intro φ2 hp s s' W i hi hI dB;obtain ⟨M3,r2,o2,hC⟩:=H.c2;obtain ⟨IP,p1,p2,p3⟩:=H.tyP;obtain ⟨Ii,i1,i2,i3⟩:=H.tyi;obtain ⟨rr,hr⟩:=Fs dB;have N1:=hI;obtain ⟨Z,φ,h⟩:=hI;refine ZF hC H.hT p1 p2 p3 (h.iK _ _ _ (h.base _ _ _ (hp _ _ _ Up))) (cr H.hT i1 i2 i3 h.hv.cell) ?_;exact N1.call (by rw [H.key];exact H.gvC.1) (by rw [H.key];exact H.sig.1) (H.snd _ _ _ hr) (vs:=[.int .i64 i,.int .i64 v]) λφ _ _=>⟨_,_,rfl,mQ,_,_,rfl,mQ,rfl⟩
theorem OD (H:pY P c g n fn r o){bs:List Bool}{m:MV}{vm:List Value}{bm:Nat}(hI:BI c n φ0 w0 φ1 bc bv br s v W)(Up:φ1 bd 0=some (.pointer (some ⟨bc,0,none⟩)))(hbm: ∀j,j<vm.length->φ1 bm j=vm[j]?)(hlm:vm.length=n.sz)(hm: ∃ms,m= .agg ms/\fe c.key φ1 vm ms)(hb:Lt s.bl=some bs)(hd:rO (Oz g n.k m) bs 0 s=some s'): cm P n.fEa #[.pointer (some ⟨bc,0,none⟩),.func (.func n.f3) #[] #[.pointer (some ⟨bd,0,none⟩),.pointer (some ⟨bm,0,none⟩)]] W λ_ W'=>BI c n φ0 w0 φ1 bc bv br s' v W':=by
 refine ad9 H hI hb hd ?_;intro φ2 hp s s' W i hi hI dB;obtain ⟨fn3,r3,o3,hC⟩:=H.c3;obtain ⟨IP,p1,p2,p3⟩:=H.tyP;obtain ⟨Im,m1,m2,m3⟩:=H.tym;obtain ⟨rr,hr⟩:=Fs dB;obtain ⟨ms,rfl,HJ⟩:=hm;have N1:=hI;obtain ⟨Z,φ,h⟩:=hI;have SE:W.rangeAt bm 0 vm:=by intro j u hj;rw [aaY];have Lb:=(aaC.1 hj).1;exact h.iK _ _ _ (h.base _ _ _ (hp _ _ _ (by rw [hbm j Lb];exact hj)))
 refine ZF hC H.hT p1 p2 p3 (h.iK _ _ _ (h.base _ _ _ (hp _ _ _ Up))) (jg H.hT m1 m2 (by rw [hlm,m3]) SE) ?_;exact N1.call (by rw [H.key];exact H.gvC.2.1) (by rw [H.key];exact H.sig.2.1) (H.snd _ _ _ hr) (vs:=[.int .i64 i,.agg vm.toArray]) λφ KT _=>⟨_,_,rfl,mQ,_,_,rfl,s9 (HJ.mono (hp.trans KT)),rfl⟩
theorem Uq {v:Int}:Gq [.k (.i .i64)] [.i .i64 v]=some ([.p (.i .i64 v)],[]):=by simp [Gq,cH,jY,jn,gC,gI,gN]
theorem ZL {Z:Nat->Prop} {φ:Ph}(h:eM c Z φ W bv [.k (.i .i64)] [.i .i64 v]):yZ W bv v:=by obtain ⟨cs,m,E,arr,T,h1,h2,h3,h4,h5,h6,h7⟩:=h;rw [Uq] at h1;simp only [bB,aa9] at h1;obtain ⟨rfl,rfl⟩:=h1;obtain ⟨v0,r0,e0,⟨_,l0⟩,h5⟩:=h5;have h5:r0=[]:=h5;subst h5;have l0:gk c.key φ v0 (.i .i64 v):=l0;cases l0;refine ⟨T,?_⟩;have:arr= #[.int .i64 v]:=adv.1 (by rw [e0];rfl);rw [<-this];exact h2
theorem ZM {Z:Nat->Prop} {φ:Ph}(h:yZ W bv v)(hz:Z bv)(hf: ∀o,φ bv o=none):eM c Z φ W bv [.k (.i .i64)] [.i .i64 v]:=by obtain ⟨T,hT⟩:=h;exact ⟨_,_,λ_=>undef,_,T,Uq,hT,hz,hf,⟨[_],[],rfl,⟨rfl,.i _ _⟩,rfl⟩,λf o ho=>by simp [aE] at ho,λf f' o o' k ho=>by simp [aE] at ho⟩
theorem VX (H:pY P c g n fn r o){bs:List Bool}(hI:BI c n φ0 w0 φ1 bc bv br s v W)(hb:Lt s.bl=some bs)(hd:rO (ZH g n.k s) bs 0 v=some v'): cm P n.fEa #[.pointer (some ⟨bc,0,none⟩),.func (.func n.f1) #[] #[.pointer (some ⟨bv,0,none⟩),.pointer (some ⟨bc,0,none⟩)]] W λ_ W'=>BI c n φ0 w0 φ1 bc bv br s v' W':=by
 obtain ⟨Z,φ,h⟩:=hI;obtain ⟨u,hu⟩:=h.cell.six;obtain ⟨T,hh⟩:=hu.heap;obtain ⟨φt,k1,k2,k3,k4,k5⟩:=hu.still h.iK;obtain ⟨Gp,hlen⟩:=M2 hb;have hrb:=hu.b.mono k1;rw [Gp] at hrb;obtain ⟨ad,cp,hub,a8⟩:=GG hrb;obtain ⟨fnE,rE,oE,hE⟩:=H.each;obtain ⟨IS,s1,s2,s3,s4⟩:=H.tyS;obtain ⟨IB,b1,b2,b3⟩:=H.tyB;obtain ⟨Ib,c1,c2,c3⟩:=H.tyb;have pG:bv<W.heap.size:=by obtain ⟨T,hT⟩:=h.hv;exact aN hT
 have hft: ∀o,φt bv o=none:=λo=>by rw [k3 bv o h.zv];exact h.fv o
 let Zv:Nat->Prop:=λb=>b=bv\/W.heap.size<=b;refine (M1 hE H.hT s1 s2 (by rw [s3];rfl) c1 c2 c3 b1 b2 b3 (Inv:=λv W'=> ∃φ',fY φt φ'/\mb φ' W'/\eM c Zv φ' W' bv [.k (.i .i64)] [.i .i64 v]/\Trans Zv φt W φ' W') (step:=ZH g n.k s) (bl:=bs) (ad:=ad) (cp:=cp) ?_ ?_ ?_ (by omega) ⟨φt,.refl _,k2,ZM h.hv (.inl rfl) hft,.refl _ _ _⟩ hd).imp ?_
 ·rintro v1 v2 W1 i hi ⟨φ',q1,q2,q3,q4⟩ dB;obtain ⟨rr,hr⟩:=VV dB;have dy:dz c Zv φ' W1 (c.key n.f1) [.int .i64 i,.pointer (some ⟨bv,0,none⟩),.pointer (some ⟨bc,0,none⟩)] [.i .i64 i,.cell (.func 0 [.i .i64 v1]),.rp s.ls]:=by simp only [dz,H.key,H.gvC.2.2.2,if_true];refine .inr (.inr ⟨1,[.k (.i .i64)],0,[.i .i64 v1],bv,H.aiQ,rfl,rfl,?_,q3⟩);refine ⟨_,_,rfl,mQ,_,_,rfl,⟨rfl,.rp bv 0 [] [] .nil (by simp)⟩,_,_,rfl,⟨rfl,.rp bc 0 (u.vs s) s.ls (k4.mono q1) λj hj=> ?_⟩,rfl⟩;rw [aaY];exact q1.xn (k5 j hj) hj
  have hz: ∀b,W1.heap.size<=b->Zv b:=λb hb=> .inr (abj q4.size hb);refine (H.snd _ _ _ hr φ' W1 Zv _ hz dy q2).imp ?_;rintro x W2 ⟨φ2,t1,t2,mP,pos',ks',afn,Pq,xy,O8,hc⟩;rw [H.key,show c.sig n.k.f1=_ from H.aiQ] at xy;simp only [bB,aa9] at xy;obtain ⟨rfl,rfl⟩:=xy;simp only [List.getElem?_cons_succ,adx,bB,adY,aeN] at O8;obtain ⟨rfl,_⟩:=O8;exact ⟨φ2,q1.trans t1.ph,t2,hc,q4.trans t1⟩
 ·rw [cell_of hh];show some u.b=_;rw [hub]
 ·intro h0;obtain ⟨aR,off,e1,e2⟩:=a8 h0;refine ⟨aR,off,e1,?_⟩;rintro s2 W2 ⟨φ',q1,q2,q3,q4⟩ k hk;exact q2 _ _ _ (q1 _ _ _ (e2 k hk))
 ·rintro _ W2 ⟨φ',q1,q2,q3,q4⟩;exact ⟨_,φ,h.same q4.size q4.rest (λb hb df=>q4.heap b (λhz=>hz.elim df (by omega)) hb) (ZL q3)⟩
end
end Dn
/-
  The walk's pieces: a turn, and the end. Conditions: none.
-/
namespace Dn
open Go
section
variable {P:Program}{c:Ctx}{g:Nat->List MV->Option MV}{n:CN}{fn:Func}{r:Nat->Nat}{o:Nat->Oper} {φ0 φ1:Ph} {w0 W W':World}{bc br bd bv:Nat} {s s':CS} {v v' l:Int}{a:Act} {σ:Nat->Value}{Q:Exit->Act->World->Prop}
theorem CI0.new {Z:Nat->Prop} {φ:Ph}{vs:List Value}{T:TypeId}(h:CI0 c φ0 w0 φ1 bc bv br n.gG n.ty s v W Z φ)(hh:W'.heap[W.heap.size]? =some (.cells vs.toArray T (0,0)))(hs:W.heap.size<=W'.heap.size)(hold: ∀b,b<W.heap.size->W'.heap[b]? =W.heap[b]?)(hr:Rest W W'): BI c n φ0 w0 (HQ φ W.heap.size vs) bc bv br s v W':=by
 have ol: ∀o,φ W.heap.size o=none:=by
  intro o;cases hq:φ W.heap.size o with
  |none=>rfl
  |some u=>exact absurd (aar W _ (h.iK _ _ _ hq)) (Nat.lt_irrefl _)
 have hle:=Fq (vs:=vs) ol;have jr:=h.same (v':=v) hs hr (λb hb _=>hold b hb) (h.hv.same λhl=>hold bv hl);have pG:bv<W.heap.size:=by obtain ⟨T,hT⟩:=h.hv;exact aN hT
 have hlr:br<W.heap.size:=by obtain ⟨arr,T,hT,_⟩:=h.hr;exact aN hT
 have df: ∀b o,b<W.heap.size->HQ φ W.heap.size vs b o=φ b o:=λb o hb=>by unfold HQ;rw [if_neg (Nat.ne_of_lt hb)]
 refine ⟨_,_,jr.cell.more hle λb o hb=>df b o hb.2,D7 jr.iK hh,⟨jr.tr.ph.trans hle,jr.tr.heap,λb o hb=> ?_,jr.tr.size,jr.tr.rest⟩,.refl _,jr.sub,jr.hv,jr.zv,λo=>by rw [df _ _ pG];exact h.fv o,h.nv,jr.hr,jr.zr,λo=>by rw [df _ _ hlr];exact h.fr o,h.nr,h.ne⟩;have:b<W.heap.size:=by have:=h.tr.size;omega
 rw [df _ _ this];exact h.tr.free b o hb
theorem uY {key:Nat->Nat} {φ:Ph}{x:Value}{xs:List MV}(h:gk key φ [x] (.list xs)): ∃ad cp,x= .slice ad xs.length cp/\ ∀k (hk:k<xs.length),∃aR off Dk vm,ad=some ⟨aR,off,none⟩/\vm.length=Dk/\gk key φ vm xs[k]/\ ∀j,j<Dk->φ aR (off+k *Dk+j)=vm[j]? :=by
 generalize hv:[x]=l at h;generalize hm:MV.list xs=m at h;cases h with
 |list a cap ys aR off Dk f h1 h2 h3 h4 h5=>cases hm;refine ⟨a,cap,by simpa using hv,λk hk=>⟨aR,off,Dk,f k,h2 (by omega),h3 k hk,h5 k hk,λj hj=>h4 k j hk hj⟩⟩
 |_=>cases hm
theorem VY {m:MV}(h:G0 m=true): ∃ms,m= .agg ms:=by cases m<;>simp [G0] at h;exact ⟨_,rfl⟩
theorem ZN {key:Nat->Nat} {φ:Ph}{vs:List Value}{ms:List MV}(h:gk key φ vs (.agg ms)):fe key φ vs ms:=by
 cases h with
 |agg _ _ h=>exact h
theorem D9 {d:Nat}{op:Op}{p:Oper}(hp:ai p d op)(df: ∀t,op≠ .alloc t):Dw p=false:=by unfold Dw;rw [hp.op];cases op<;>first|rfl|exact absurd rfl (df _)
theorem acs (H:pY P c g n fn r o)(hI:BI c n φ0 w0 φ1 bc bv br s v W)(Up:φ1 bd 0=some (.pointer (some ⟨bc,0,none⟩)))(af:Tm a 52 σ)(hF:Fv σ bc br bd bv){l:Int}(hl:SI g n.k s v=some l)(hle:SH (g n.fLe [.cell (.func 0 s.ls),.i .i64 l])=some s')(hQ: ∀a W' σ',BI c n φ0 w0 φ1 bc bv br s' v W'->Tm a 52 σ'->Fv σ' bc br bd bv->σ' 5=σ 5->Q .normal a W'):(aaR (r 15) #[o 49,o 50,o 51,o 52,o 53,o 54] true).wp P Q a W:=by
 have TR:=M4 hl;obtain ⟨rr,hr⟩:=Fs hle;obtain ⟨Z,φ,h⟩:=hI;obtain ⟨u,hu⟩:=h.cell.six;obtain ⟨T,hh⟩:=hu.heap;obtain ⟨IS,s1,s2,s3,s4⟩:=H.tyS;obtain ⟨IZ,z1,z2,z3⟩:=H.tyZ;obtain ⟨Ii,i1,i2,i3⟩:=H.tyi;obtain ⟨IP,p1,p2,p3⟩:=H.tyP;refine D6 (c:=c) (φ:=λ_ _=>none) (ord:=[0,1,2,3,4,5]) H.Zl H.d15 λlisted lY=> ?_;have hIm: ∀W:World,mb (λ_ _=>none) W:=λW b o u hu=>by cases hu
 obtain ⟨W0,Ls⟩: ∃W0,W0=({W with drawn:=W.drawn+1}:World):=⟨_,rfl⟩
 rw [<-Ls];have t0:Trans (λb=>W.heap.size<=b) φ W φ W0:=by rw [Ls];exact ⟨.refl _,λ_ _ _=>rfl,λ_ _ _=>rfl,OF _,⟨rfl,rfl,rfl⟩⟩
 have h0:=h.grow t0;have Qu:W0.heap[bc]? =some (.cells (u.vs s).toArray T (0,0)):=by rw [Ls];exact hh
 have hpd: ∀w',cL W0 w'->w'.cell? ⟨bd,0,none⟩=some (.pointer (some ⟨bc,0,none⟩)):=λw' hg=>sI (h0.iK _ _ _ (h0.base _ _ _ Up)) λhl=>hg.pF bd hl;have hrZ: ∀w',cL W0 w'->w'.rangeAt bc 0 [.int .i64 s.F,.int .i64 s.T]:=λw' hg=>wOf (arr:=u.vs s) (by rw [hg.pF bc (aN Qu)];exact Qu) (by intro j hj;match j,hj with|0,_=>rfl|1,_=>rfl);refine lY.read (v:= .pointer (some ⟨bc,0,none⟩)) rfl H.ops.Rq (by decide) (by simp [dY,H.ops.Rq.op]) (by simp [dX,H.ops.Rq.op]) (oX H.fl) (by simp [qR,H.ops.Rq.op]) af (hIm _) (λw' hg=>ew H.ops.Rq (by show (BY n.tP (σ 3)).run P w'=_;rw [hF.h3];exact cr H.hT p1 p2 p3 (hpd w' (hg (by simp [kw,H.ops.Rq.op]))))) (λa af lY=> ?_);refine lY.read (v:= .pointer (some ⟨bc,0+0,none⟩)) rfl H.ops.Sz (by decide) (by simp [dY,H.ops.Sz.op]) (by simp [dX,H.ops.Sz.op]) (oX H.fl) (by simp [qR,H.ops.Sz.op]) af (hIm _) (λw' _=>gm H.ops.Sz H.hT s1 s2 (by rw [s3];rfl) hF.h1 w') (λa af lY=> ?_);refine lY.read (v:= .agg #[.int .i64 s.F,.int .i64 s.T]) rfl H.ops.SA (by decide) (by simp [dY,H.ops.SA.op]) (by simp [dX,H.ops.SA.op]) (oX H.fl) (by simp [qR,H.ops.SA.op]) af (hIm _) (λw' hg=>ew H.ops.SA (by exact jg H.hT z1 z2 (vs:=[.int .i64 s.F,.int .i64 s.T]) (by rw [z3];rfl) (hrZ w' (hg (by simp [kw,H.ops.SA.op]))))) (λa af lY=> ?_);refine lY.read (v:= .int .i64 v) rfl H.ops.Rr (by decide) (by simp [dY,H.ops.Rr.op]) (by simp [dX,H.ops.Rr.op]) (oX H.fl) (by simp [qR,H.ops.Rr.op]) af (hIm _) (λw' hg=>ew H.ops.Rr (by show (BY n.ti (σ 4)).run P w'=_;rw [hF.h4];exact cr H.hT i1 i2 i3 ((h0.hv.same λhl=>(hg (by simp [kw,H.ops.Rr.op])).pF bv hl).cell))) (λa af lY=> ?_);have Dm:cm P n.ZK #[.agg #[.int .i64 s.F,.int .i64 s.T],.int .i64 v] W0 λx W'=> ∃φ',Trans (λb=>W0.heap.size<=b) φ W0 φ' W'/\mb φ' W'/\gK c (λb=>W0.heap.size<=b) φ' W' (c.key n.ZK) x (.i .i64 l):=sJ (vs:=[.agg #[.int .i64 s.F,.int .i64 s.T],.int .i64 v]) (by rw [H.key];exact H.gv.2.1) (H.snd _ _ _ TR) rfl ⟨_,_,rfl,s9 (vs:=[.int .i64 s.F,.int .i64 s.T]) (.cons [_] _ _ _ (.i _ _) (.cons [_] _ _ _ (.i _ _) .nil)),_,_,rfl,mQ,rfl⟩ h0.iK;refine lY.VT (o:=o 53) rfl (λy hy p hp=> ?_) (by simp [dY,H.ops.Rs.op]) (af.Ul rfl H.ops.Rs (by decide) (uX H.ops.Rs rfl rfl rfl _) Dm ?_)
 ·have:y=5:=by simpa using hy
  subst this;cases hp;exact D9 H.ops.Ql (by simp)
 rintro x1 W1 a ⟨φ2,t1,m1,mP⟩ af;have Dl:x1= .int .i64 l:=Qt mP;subst Dl;refine ⟨⟨λ_ _=>(OB (P:=λ_=>True) t1).for,hIm _⟩,?_⟩;obtain ⟨_,_,_,OC,_⟩:=lY.facts (o:=o 53) rfl;have HI:BI c n φ0 w0 φ1 bc bv br s v W1:=⟨_,φ,h0.grow t1⟩
 have Yk:cm P n.fLe #[.pointer (some ⟨bc,0,none⟩),.int .i64 l] W1 λ_ W'=>BI c n φ0 w0 φ1 bc bv br s' v W':=HI.call (by rw [H.key];exact H.gvC.2.2.1) (by rw [H.key];exact H.sig.2.2) (H.snd _ _ _ hr) (vs:=[.int .i64 l]) λφ _ _=>⟨_,_,rfl,mQ,rfl⟩
 refine OC.VT (o:=o 54) rfl (λy hy p hp=>by cases hy) (by simp [dY,H.ops.Ql.op]) (af.Ul rfl H.ops.Ql (by decide) (uX H.ops.Ql rfl rfl rfl _) Yk ?_);rintro x2 W2 a zY af;refine ⟨⟨λoi hg=> ?_,hIm _⟩,?_⟩
 ·exfalso;have Pa:oT c oi #[o 49,o 50,o 51,o 52,o 53,o 54] 5=(E0 c (o 54)||pI oi (o 54)):=rfl;rw [Pa] at hg;have h1:E0 c (o 54)=false:=by simp [E0,dY,zl,H.ops.Ql.op,H.key,H.gvC.2.2.1]
  have h2:pI oi (o 54)=false:=by unfold pI;simp [UZ,H.ops.Ql.op]
  rw [h1,h2] at hg;cases hg
 ·obtain ⟨_,_,_,afK,_⟩:=OC.facts (o:=o 54) rfl;refine afK.done ?_;exact hQ a W2 _ zY af ⟨hF.h1,hF.h2,hF.h3,hF.h4⟩ rfl
theorem acu (H:pY P c g n fn r o)(hI:BI c n φ0 w0 φ1 bc bv br s v W)(Up:φ1 bd 0=some (.pointer (some ⟨bc,0,none⟩)))(af:Tm a 52 σ)(hF:Fv σ bc br bd bv){k:Nat}(hk:k<s.pl.length)(h5:σ 5= .int .i64 (k:Int))(Tz:G0 s.pl[k]=true)(hw:s.pl[k].w=n.sz)(nM:0<n.sz){bs:List Bool}(hb:Lt s.bl=some bs)(hd:rO (Oz g n.k s.pl[k]) bs 0 s=some s')(hQ: ∀a W' σ',BI c n φ0 w0 φ1 bc bv br s' v W'->Tm a 52 σ'->Fv σ' bc br bd bv->σ' 5= .int .i64 (k:Int)->Q .normal a W'): (aaR (r 13) #[o 39,o 40,o 41,o 42,o 43,o 44,o 45] false).wp P (Exit.then (λa W=>(aaR (r 14) #[o 46,o 47,o 48] false).wp P Q a W) Q) a W:=by
 obtain ⟨Z,φ,h⟩:=hI;obtain ⟨u,hu⟩:=h.cell.six;obtain ⟨T,hh⟩:=hu.heap;obtain ⟨IS,s1,s2,s3,s4⟩:=H.tyS;obtain ⟨IM,m1,m2,m3⟩:=H.tyM;obtain ⟨Im,e1,e2,e3⟩:=H.tym;obtain ⟨IP,p1,p2,p3⟩:=H.tyP;obtain ⟨hei,hec⟩:=aV e1;obtain ⟨im,z,him,hsm,hbm,VS,G9⟩:=iA (H.hT _ Im hei) hec;obtain ⟨ad,cp,hup,Lg⟩:=uY hu.p;obtain ⟨aR,off,Dk,vm,Lh,hlm,hrm,B1⟩:=Lg k hk;obtain ⟨ms,HJ⟩:=VY Tz;have XU:Dk=n.sz:=by rw [<-hlm,hrm.width,hw]
 subst XU;have Mn:W.cell? ⟨bc,5,none⟩=some (.slice (some ⟨aR,off,none⟩) s.pl.length cp):=by rw [cell_of hh];show some u.p=_;rw [hup,Lh]
 have SE:W.rangeAt aR (off+k *n.sz) vm:=by intro j x hj;have Lb:=(aaC.1 hj).1;exact h.iK _ _ _ (by rw [B1 j (by omega)];exact hj)
 have ic: ∀x∈vm,x.oneCell'=true:=hrm.cells;refine wp_region ?_;rw [show sh (#[o 39,o 40,o 41,o 42,o 43,o 44,o 45]:Array Oper).size=[0,1,2,3,4,5,6] from rfl];refine af.step rfl H.ops.Zd (by decide) (gm H.ops.Zd H.hT s1 s2 (q:=5) (by rw [s3];rfl) hF.h1 _) (λa af=> ?_);refine af.step (v:= .slice (some ⟨aR,off,none⟩) s.pl.length cp) rfl H.ops.Ze (by decide) (ew H.ops.Ze (cr H.hT m1 m2 m3 (by simpa using Mn))) (λa af=> ?_);refine af.step (v:= .int .i64 (k:Int)) rfl H.ops.Zf (by decide) ((az H.ops.Zf _).trans (by show AT (AS (σ 5)) W=_;rw [h5])) (λa af=> ?_);refine af.step rfl H.ops.Zg (by decide) (Ox (size:=n.sz) H.ops.Zg H.aiO him (by rw [hsm,e3]) rfl rfl hk _) (λa af=> ?_);refine af.step (v:= .agg vm.toArray) rfl H.ops.Zh (by decide) (ew H.ops.Zh (jg H.hT e1 e2 (by rw [hlm,e3]) SE)) (λa af=> ?_);refine af.step rfl H.ops.Zj (by decide) (HO H.ops.Zj him VS _) (λa af=> ?_);have Qr:(W.alloc (.cells z.cells n.tm)).heap[W.heap.size]? =some (.cells z.cells n.tm (0,0)):=gj W _;have Uk:(adr vm.toArray).cells.toList=vm:=by simp [abB]
 refine af.wG rfl H.ops.h45 (xN (v:= .agg vm.toArray) (off:=0) H.ops.h45 (H.hT _ Im hei) hec rfl rfl (by rw [Uk,hlm,e3]) (by rw [Uk];exact ic) Qr (by rw [G9];omega)) ?_;rw [Uk];obtain ⟨W2,Cy⟩: ∃W2,W2=(W.alloc (.cells z.cells n.tm)).setRow W.heap.size (z.cells.toList.take 0++vm++z.cells.toList.drop (0+Im.size)).toArray:=⟨_,rfl⟩
 rw [<-Cy];have Lf:W2.heap.size=W.heap.size+1:=by rw [Cy,setRow_size];simp
 have hold: ∀b,b<W.heap.size->W2.heap[b]? =W.heap[b]? :=λb hb=>by rw [Cy,setRow_other _ _ _ _ (by omega)];exact (cL.alloc W z.cells n.tm).pF b hb
 have Rf:W2.heap[W.heap.size]? =some (.cells vm.toArray n.tm (0,0)):=by
  rw [Cy,eH _ Qr];congr 3;have:z.cells.toList.drop (0+Im.size)=[]:=by rw [aaY,aaT];rw [aaS,G9];exact OF _
  rw [this];simp
 have Jm:Rest W W2:=by rw [Cy];exact (Rest.alloc W z.cells n.tm).trans (.setRow _ _ _)
 have zY:=h.new Rf (by omega) hold Jm;have hlφ:fY φ (HQ φ W.heap.size vm):=Fq λo=>by
  cases hq:φ W.heap.size o with
  |none=>rfl
  |some u=>exact absurd (aar W _ (h.iK _ _ _ hq)) (Nat.lt_irrefl _)
 have aiV:HQ φ W.heap.size vm bd 0=some (.pointer (some ⟨bc,0,none⟩)):=hlφ _ _ _ (h.base _ _ _ Up);have Jd:=OD H (m:=s.pl[k]) (vm:=vm) (bm:=W.heap.size) zY aiV (λj hj=>by simp [HQ]) hlm ⟨ms,HJ,by rw [HJ] at hrm;exact (ZN hrm).mono hlφ⟩ hb hd;show (aaR (r 14) #[o 46,o 47,o 48] false).wp P Q a W2;refine wp_region ?_;rw [show sh (#[o 46,o 47,o 48]:Array Oper).size=[0,1,2] from rfl];have hpd:W2.cell? ⟨bd,0,none⟩=some (.pointer (some ⟨bc,0,none⟩)):=by obtain ⟨Z3,φ3,h3⟩:=zY;exact h3.iK _ _ _ (h3.base _ _ _ aiV)
 refine af.step (v:= .pointer (some ⟨bc,0,none⟩)) rfl H.ops.h46 (by decide) (ew H.ops.h46 (by show (BY n.tP (σ 3)).run P W2=_;rw [hF.h3];exact cr H.hT p1 p2 p3 hpd)) (λa af=> ?_);refine af.step (v:= .func (.func n.f3) #[] #[.pointer (some ⟨bd,0,none⟩),.pointer (some ⟨W.heap.size,0,none⟩)]) rfl H.ops.Zk (by decide) ((SF H.ops.Zk _).trans (by show AT (AS (.func (.func n.f3) #[] #[σ 3,_])) W2=_;rw [hF.h3];rfl)) (λa af=> ?_);refine af.call rfl H.ops.Vf (by decide) (uX H.ops.Vf rfl rfl rfl _) Jd ?_;rintro x W3 a hI3 af;exact hQ a W3 _ (hI3.abO (h.base.trans hlφ)) af ⟨hF.h1,hF.h2,hF.h3,hF.h4⟩ h5
abbrev Qw (r:Nat->Nat)(o:Nat->Oper):Code:= .seq (.seq (.region (r 11) #[o 34,o 35,o 36,o 37,o 38] false) (.cond (.tmp 34) .skip (.exit 2))) (.seq (.block 3 (.seq (.region (r 13) #[o 39,o 40,o 41,o 42,o 43,o 44,o 45] false) (.seq (.region (r 14) #[o 46,o 47,o 48] false) (.region (r 15) #[o 49,o 50,o 51,o 52,o 53,o 54] true)))) (.region (r 12) #[o 55,o 56,o 57] false))
theorem Qx (H:pY P c g n fn r o)(nM:0<n.sz)(Up:φ1 bd 0=some (.pointer (some ⟨bc,0,none⟩)))(hQ: ∀a W' σ',BI c n φ0 w0 φ1 bc bv br s' v W'->Tm a 52 σ'->Fv σ' bc br bd bv->Q .normal a W'): ∀(m:Nat) (p:Int×CS) (W:World) (a:Act) (σ:Nat->Value),iter (Uo g n.k v) m p=some s'->BI c n φ0 w0 φ1 bc bv br p.2 v W->Tm a 52 σ->Fv σ bc br bd bv->σ 5= .int .i64 p.1->aft P (Qw r o) (ady 2 Q) m a W:=by
 intro m;induction m with
 |zero=>intro p W a σ h;simp [iter] at h
 |succ m ih=>
  rintro ⟨at_,s⟩ W a σ h hI af hF h5;rw [rounds_succ];simp only [iter] at h;dsimp only at hI h5;have N1:=hI;obtain ⟨Z,φ,hc⟩:=hI;obtain ⟨u,hu⟩:=hc.cell.six;obtain ⟨T,hh⟩:=hu.heap;obtain ⟨IS,s1,s2,s3,s4⟩:=H.tyS;obtain ⟨IM,m1,m2,m3⟩:=H.tyM;obtain ⟨ad,cp,hup,Lg⟩:=uY hu.p;have Mn:W.cell? ⟨bc,5,none⟩=some (.slice ad s.pl.length cp):=by rw [cell_of hh];show some u.p=_;rw [hup]
  refine wp_seq (wp_seq (wp_region ?_));rw [show sh (#[o 34,o 35,o 36,o 37,o 38]:Array Oper).size=[0,1,2,3,4] from rfl];refine af.step (v:= .int .i64 at_) rfl H.ops.Qk (by decide) ((az H.ops.Qk _).trans (by show AT (AS (σ 5)) W=_;rw [h5])) (λa af=> ?_);refine af.step rfl H.ops.Rn (by decide) (gm H.ops.Rn H.hT s1 s2 (q:=5) (by rw [s3];rfl) hF.h1 _) (λa af=> ?_);refine af.step (v:= .slice ad s.pl.length cp) rfl H.ops.Sx (by decide) (ew H.ops.Sx (cr H.hT m1 m2 m3 (by simpa using Mn))) (λa af=> ?_);refine af.step (v:= .int .i64 ((s.pl.length:Nat):Int)) rfl H.ops.Ro (by decide) (j7 H.ops.Ro H.aiO rfl _) (λa af=> ?_);refine af.step (v:= .bool (decide (at_<(s.pl.length:Int)))) rfl H.ops.Sy (by decide) (Ap H.ops.Sy rfl rfl _) (λa af=> ?_);unfold Uo at h;dsimp only at h;by_cases dO:at_<(s.pl.length:Int)
  ·rw [if_pos dO] at h;refine af.cond (b:=true) (by show IN (decide (at_<(s.pl.length:Int)))=_;rw [decide_eq_true dO]) ?_;simp only [if_true];refine wp_skip ?_;cases Hc:UU s.pl at_ with
   |none=>rw [Hc] at h;simp at h
   |some mm=>
   cases hb:Lt s.bl with
   |none=>rw [Hc,hb] at h;simp at h
   |some bs=>
   rw [Hc,hb] at h;dsimp only at h;cases Tz:G0 mm&&aa8 mm.w n.k.sz with
   |false=>rw [Tz] at h;simp at h
   |true=>
   rw [Tz] at h;simp only [cond_true] at h;simp only [aaV] at Tz;obtain ⟨amN,afM⟩:=Tz;have afM:mm.w=n.sz:=aaX afM;cases hd:rO (Oz g n.k mm) bs 0 s with
   |none=>rw [hd] at h;simp at h
   |some s1'=>
   rw [hd] at h;dsimp only at h;cases hl:SI g n.k s1' v with
   |none=>rw [hl] at h;simp at h
   |some l=>
   rw [hl] at h;dsimp only at h;cases hle:SH (g n.k.le [.cell (.func 0 s1'.ls),.i .i64 l]) with
   |none=>rw [hle] at h;simp at h
   |some s2'=>
   rw [hle] at h;simp only at h;unfold UU at Hc;split at Hc;rotate_left
   ·cases Hc
   rename_i h0;obtain ⟨hk,hmm⟩:=aaC.1 Hc;obtain ⟨k,rfl⟩: ∃k:Nat,at_=(k:Int):=⟨at_.toNat,by omega⟩
   simp only [Int.toNat_natCast] at hk hmm;subst hmm;refine wp_seq (wp_block (wp_seq (aeg ?_ (acu (s':=s1') (Q:=λx a W=>match x with| .normal=> ∃σ',BI c n φ0 w0 φ1 bc bv br s1' v W/\Tm a 52 σ'/\Fv σ' bc br bd bv/\σ' 5= .int .i64 (k:Int)|_=>False) H N1 Up af ⟨hF.h1,hF.h2,hF.h3,hF.h4⟩ hk h5 amN afM nM hb hd ?_))));rotate_left
   ·intro a W' σ' q1 q2 q3 q4;exact ⟨σ',q1,q2,q3,q4⟩
   intro x a1 W1 hx;cases x<;>try exact hx.elim
   refine wp_seq (aeg ?_ hx);intro x a2 W2 PA;cases x<;>try exact PA.elim
   obtain ⟨σ2,zY,DY,Fe,Rr⟩:=PA;refine acs H zY Up DY Fe hl hle ?_;intro a3 W3 σ3 hI3 He hF3 Rs;rw [Rr] at Rs;show (aaR (r 12) #[o 55,o 56,o 57] false).wp P _ a3 W3;refine wp_region ?_;rw [show sh (#[o 55,o 56,o 57]:Array Oper).size=[0,1,2] from rfl];refine He.step (v:= .int .i64 (k:Int)) rfl H.ops.h55 (by decide) ((az H.ops.h55 _).trans (by show AT (AS (σ3 5)) W3=_;rw [Rs])) (λa af=> ?_);refine af.step rfl H.ops.h56 (by decide) (Um (p:=(k:Int)) (q:=1) H.ops.h56 rfl rfl _) (λa af=> ?_);refine af.step (v:= .int .i64 (aaU .i64 ((k:Int)+1))) rfl H.ops.h57 (by decide) (bD H.ops.h57 _) (λa af=> ?_);exact ih (aaU .i64 ((k:Int)+1),s2') W3 a _ h hI3 af ⟨hF3.h1,hF3.h2,hF3.h3,hF3.h4⟩ rfl
  ·rw [if_neg dO] at h;simp only [bB] at h;refine af.cond (b:=false) (by show IN (decide (at_<(s.pl.length:Int)))=_;rw [decide_eq_false dO]) ?_;simp only [AI,if_false];refine wp_exit ?_;rw [<-h] at hQ;exact hQ a W _ N1 af ⟨hF.h1,hF.h2,hF.h3,hF.h4⟩
end
end Dn
/-
  Parts that are taken off bytes, into a variable of eight parts, by way of pointers: what it does. Conditions: none.
-/
namespace Dn
open Go
structure Qy where
 xs:List MV
 e:Int
 os:List MV
structure TkF where
 ti:Nat
 tx:Nat
 may:Nat
section
variable (g:Nat->List MV->Option MV)(k:TkF)
def tkI (j:Nat)(q:Qy):Option Qy:=if q.e=0 then (match g k.ti [.list q.xs] with
 |some (.bW [.i .i64 n,.list xs,.i .i64 e])=>some ⟨xs,e,q.os.set j (.i .i64 n)⟩
 |_=>none) else some q
def Qz (j:Nat)(most:Int)(q:Qy):Option Qy:=if q.e=0 then (match g k.tx [.list q.xs,.i .i64 most] with
 |some (.bW [.s l,.list xs,.i .i64 e])=>some ⟨xs,e,q.os.set j (.s l)⟩
 |_=>none) else some q
def Ft:List Nat->Qy->Option Qy
 |[],q=>some q
 |j::r,q=>(match tkI g k j q with
  |some q=>Ft r q
  |none=>none)
def Xc:List MV:=[.i .i64 0,.i .i64 0,.i .i64 0,.s [],.s [],.i .i64 0,.i .i64 0,.i .i64 0]
def QA (xs:List MV):Option MV:=match Ft g k [0,1,2,5,6,7] ⟨xs,0,Xc⟩ with
 |some q=>(match Qz g k 3 100 q with
  |some q=>(match Qz g k 4 1000 q with
   |some q=>if q.e=0 then (match g k.may [.agg q.os] with
    |some (.b true)=>some (.bW [.agg q.os,.list q.xs,.i .i64 0])
    |some (.b false)=>some (.bW [.agg Xc,.list [],.i .i64 3])
    |_=>none) else some (.bW [.agg Xc,.list [],.i .i64 q.e])
   |none=>none)
  |none=>none)
 |none=>none
end
theorem aY.set {key:Nat->Nat} {φ:Ph}{v:Value}{m:MV}(h:cV key φ v m): ∀{ms:List MV} {vs:List Value} {j:Nat},aY key φ vs ms->aY key φ (vs.set j v) (ms.set j m):=by
 intro ms;induction ms with
 |nil=>intro vs j hh;have hh:vs=[]:=hh;subst hh;rfl
 |cons m' ms ih=>
  intro vs j hh;obtain ⟨v',r,rfl,h1,h2⟩:=hh;cases j with
  |zero=>exact ⟨v,r,rfl,h,h2⟩
  |succ j=>exact ⟨v',r.set j v,rfl,h1,ih h2⟩
theorem aY.len {key:Nat->Nat} {φ:Ph}: ∀{ms:List MV} {vs:List Value},aY key φ vs ms->vs.length=ms.length:=by
 intro ms;induction ms with
 |nil=>intro vs h;have h:vs=[]:=h;subst h;rfl
 |cons m ms ih=>intro vs h;obtain ⟨v,r,rfl,_,h2⟩:=h;simp [ih h2]
structure xj (c:Ctx) (φ0:Ph) (w0:World) (φ:Ph) (W:World) (q:Qy) (vs:List Value):Prop where
 iK:mb φ W
 tr:Trans (λb=>w0.heap.size<=b) φ0 w0 φ W
 h2: ∃zs T,W.heap[w0.heap.size]? =some (.cells zs T (0,0))/\zs.size=8
 hr: ∃vb T,W.heap[w0.heap.size+1]? =some (.cells [vb,.int .i64 q.e].toArray T (0,0))/\gk c.key φ [vb] (.list q.xs)
 ho: ∃T,W.heap[w0.heap.size+2]? =some (.cells vs.toArray T (0,0))
 os:aY c.key φ vs q.os
 n:vs.length=8
 f: ∀j o,j<3->φ (w0.heap.size+j) o=none
section
variable {P:Program}{c:Ctx} {φ0 φ φ':Ph} {w0 W W':World}{q:Qy}{vs:List Value}
theorem xj.grow (h:xj c φ0 w0 φ W q vs)(t:Trans (λb=>W.heap.size<=b) φ W φ' W')(hi:mb φ' W'):xj c φ0 w0 φ' W' q vs:=by obtain ⟨zs,T2,a1,a2⟩:=h.h2;obtain ⟨vb,Tr,b1,b2⟩:=h.hr;obtain ⟨To,c1⟩:=h.ho;have nM:=aN c1;have hold: ∀b,b<W.heap.size->W'.heap[b]? =W.heap[b]? :=λb hb=>t.heap b (by omega) hb;refine ⟨hi,h.tr.trans (t.wD λb hb=>by have:=h.tr.size;omega),⟨zs,T2,by rw [hold _ (by omega)];exact a1,a2⟩,⟨vb,Tr,by rw [hold _ (by omega)];exact b1,b2.mono t.ph⟩,⟨To,by rw [hold _ (by omega)];exact c1⟩,h.os.mono t.ph,h.n,λj o hj=> ?_⟩;rw [t.free _ o (by omega)];exact h.f j o hj
theorem xj.wrote {q':Qy}{La:List Value}(h:xj c φ0 w0 φ W q vs){j:Nat}(hj:j<3)(hs:W'.heap.size=W.heap.size)(hr:Rest W W')(ho: ∀b,b≠w0.heap.size+j->W'.heap[b]? =W.heap[b]?)(h2: ∃zs T,W'.heap[w0.heap.size]? =some (.cells zs T (0,0))/\zs.size=8)(hb: ∃vb T,W'.heap[w0.heap.size+1]? =some (.cells [vb,.int .i64 q'.e].toArray T (0,0))/\gk c.key φ [vb] (.list q'.xs))(hv: ∃T,W'.heap[w0.heap.size+2]? =some (.cells La.toArray T (0,0)))(hos:aY c.key φ La q'.os)(hn:La.length=8):xj c φ0 w0 φ W' q' La:=by
 refine ⟨λb o u hu=>sI (h.iK b o u hu) λhl=>ho b λe=> ?_,⟨h.tr.ph,λb hb hl=> ?_,h.tr.free,by rw [hs];exact h.tr.size,h.tr.rest.trans hr⟩,h2,hb,hv,hos,hn,h.f⟩
 ·rw [e,h.f j o hj] at hu;cases hu
 ·rw [ho b (by omega)];exact h.tr.heap b hb hl
theorem xj.amO (h:xj c φ0 w0 φ W q vs){j:Nat}{v:Value}{m:MV}(hm:cV c.key φ v m):xj c φ0 w0 φ (W.setRow (w0.heap.size+2) (vs.set j v).toArray) ⟨q.xs,q.e,q.os.set j m⟩ (vs.set j v):=by obtain ⟨zs,T2,a1,a2⟩:=h.h2;obtain ⟨vb,Tr,b1,b2⟩:=h.hr;obtain ⟨To,c1⟩:=h.ho;refine h.wrote (j:=2) (by decide) (setRow_size _ _ _) (.setRow _ _ _) (λb hb=>setRow_other _ _ _ _ hb) ⟨zs,T2,by rw [setRow_other _ _ _ _ (by omega)];exact a1,a2⟩ ⟨vb,Tr,by rw [setRow_other _ _ _ _ (by omega)];exact b1,b2⟩ ⟨To,eH _ c1⟩ (h.os.set hm) (by simp [h.n])
theorem xj.BD (h:xj c φ0 w0 φ W q vs){v:Value}{xs:List MV}(hm:gk c.key φ [v] (.list xs)):xj c φ0 w0 φ (W.setRow (w0.heap.size+1) [v,.int .i64 q.e].toArray) ⟨xs,q.e,q.os⟩ vs:=by obtain ⟨zs,T2,a1,a2⟩:=h.h2;obtain ⟨vb,Tr,b1,b2⟩:=h.hr;obtain ⟨To,c1⟩:=h.ho;exact h.wrote (j:=1) (by decide) (setRow_size _ _ _) (.setRow _ _ _) (λb hb=>setRow_other _ _ _ _ hb) ⟨zs,T2,by rw [setRow_other _ _ _ _ (by omega)];exact a1,a2⟩ ⟨v,Tr,eH _ b1,hm⟩ ⟨To,by rw [setRow_other _ _ _ _ (by omega)];exact c1⟩ h.os h.n
theorem xj.amP (h:xj c φ0 w0 φ W q vs){vb:Value}(e:Int)(hb:gk c.key φ [vb] (.list q.xs)):xj c φ0 w0 φ (W.setRow (w0.heap.size+1) [vb,.int .i64 e].toArray) ⟨q.xs,e,q.os⟩ vs:=by obtain ⟨zs,T2,a1,a2⟩:=h.h2;obtain ⟨vb',Tr,b1,b2⟩:=h.hr;obtain ⟨To,c1⟩:=h.ho;exact h.wrote (j:=1) (by decide) (setRow_size _ _ _) (.setRow _ _ _) (λb hb=>setRow_other _ _ _ _ hb) ⟨zs,T2,by rw [setRow_other _ _ _ _ (by omega)];exact a1,a2⟩ ⟨vb,Tr,eH _ b1,hb⟩ ⟨To,by rw [setRow_other _ _ _ _ (by omega)];exact c1⟩ h.os h.n
theorem Js {t:TypeId}{I:TI}{x y:Operand}{e:Operand->Value}{g off:Nat}{v:Value}{ls:List Value}{T:TypeId}{o:Oper}(ho:fN o (.store t x y))(hT:fZ P c.ti)(hI:c.tv t=some I)(hs:I.size=1)(hx:e x= .pointer (some ⟨g,off,none⟩))(hy:e y=v)(hc:v.cells.toList=[v])(h1:v.oneCell'=true)(ct:W.heap[g]? =some (.cells ls.toArray T (0,0)))(Aa:off<ls.length):(execOp e o).run P W= .ok .skip (W.setRow g (ls.set off v).toArray):=by
 obtain ⟨kR,B1⟩:=aV hI;rw [xN (v:=v) ho (hT _ _ kR) B1 hx hy (by rw [hc,hs];rfl) (by rw [hc];simpa using h1) ct (by rw [hs];simp;omega),hc,hs];congr 2;have:ls.set off v=ls.take off++v::ls.drop (off+1):=by rw [List.set_eq_take_append_cons_drop,if_pos Aa]
 rw [this];simp
end
end Dn
/-
  Numbers, and a text, that are taken off: the walks. Conditions: none.
-/
namespace Dn
open Go
structure Xd where
 tO:Nat
 tY:Nat
 te:Nat
 tR:Nat
 tQ:Nat
 tL:Nat
 tI:Nat
 tX:Nat
 ti:Nat
 tS:Nat
 tB:Nat
structure acx (P:Program) (c:Ctx) (g:Nat->List MV->Option MV) (k:TkF) (t:Xd):Prop where
 hT:fZ P c.ti
 key: ∀f,c.key f=f
 snd: ∀f ms r,g f ms=some r->fh P c f ms r
 gv:c.cR k.ti=false/\c.cR k.tx=false/\c.cR k.may=false
 tyO: ∃I,c.tv t.tO=some I/\I.st=true/\I.ES=[0,1,2,3,4,5,6,7]/\I.size=8
 tyR: ∃I,c.tv t.tR=some I/\I.st=true/\I.ES=[0,1]/\I.size=2
 tyY: ∃I,c.tv t.tY=some I/\I.st=false/\I.size=1
 tye: ∃I,c.tv t.te=some I/\I.st=false/\I.size=1
 tyi: ∃I,c.tv t.ti=some I/\I.st=false/\I.size=1
 tyS: ∃I,c.tv t.tS=some I/\I.st=false/\I.size=1
 tyI: ∃I,c.tv t.tI=some I/\I.st=false/\I.size=1
 acy:P.underlying t.tL=some (.slice t.tI)
theorem wH {P:Program}{o:Oper}{d j:Nat}{x:Operand}{e:Operand->Value}{arr:Array Value}{v:Value}(ho:ai o d (.extract x j))(hx:e x= .tuple arr)(hj:arr[j]? =some v)(w:World):(execOp e o).run P w= .ok (.value v) w:=by simp [execOp,ho.op,hx,Instr.extract,hj]
theorem aY.three {key:Nat->Nat} {φ:Ph}{arr:Array Value}{a b d:MV}(h:aY key φ arr.toList [a,b,d]): ∃x y z,arr[0]? =some x/\arr[1]? =some y/\arr[2]? =some z/\cV key φ x a/\cV key φ y b/\cV key φ z d:=by obtain ⟨x,r,e1,h1,y,r2,e2,h2,z,r3,e3,h3,e4⟩:=h;have e4:r3=[]:=e4;subst e2 e3 e4;refine ⟨x,y,z,?_,?_,?_,h1,h2,h3⟩<;>rw [<-adA,e1]<;>rfl
theorem aea {key:Nat->Nat} {φ:Ph}{v:Value}{xs:List MV}(h:cV key φ v (.list xs)):gk key φ [v] (.list xs)/\v.cells.toList=[v]/\v.oneCell'=true:=by have h:MV.one (.list xs)=true/\gk key φ [v] (.list xs):=h;obtain ⟨ad,cp,rfl,_⟩:=uY h.2;exact ⟨h.2,rfl,rfl⟩
def Jt (r:Nat->Nat)(o:Nat->Oper):Code:= .seq (.region (r 0) #[o 0,o 1,o 2] false) (.block 0 (.loop (.seq (.region (r 1) #[o 3] false) (.seq (.cond (.tmp 9) .skip (.exit 0)) (.seq (.block 1 (.seq (.region (r 2) #[o 4,o 5,o 6] false) (.seq (.region (r 3) #[o 7,o 8,o 9,o 10,o 11] false) (.cond (.tmp 16) (.region (r 4) #[o 12,o 13,o 14,o 15,o 16,o 17,o 18,o 19,o 20,o 21,o 22,o 23,o 24,o 25,o 26,o 27,o 28,o 29,o 30,o 31] false) .skip)))) (.region (r 5) #[o 32,o 33] false))))))
structure acz (t:Xd) (fTI:Nat) (o:Nat->Oper):Prop where
 h0:ai (o 0) 6 (.move (.tmp 1))
 h1:ai (o 1) 7 (.call {callee:= .builtin .len,args:= #[.tmp 6],argTypes:= #[t.tL]})
 h2:ai (o 2) 8 (.move (.const (.int .i64 0)))
 h3:ai (o 3) 9 (.binOp .lss t.ti (.tmp 8) (.tmp 7) t.ti)
 h4:ai (o 4) 10 (.indexAddr t.tL (.tmp 6) (.tmp 8))
 h5:ai (o 5) 11 (.load t.tI (.tmp 10))
 h6:ai (o 6) 5 (.assign (.tmp 11))
 h7:ai (o 7) 12 (.move (.tmp 0))
 h8:ai (o 8) 13 (.nilCheck (.tmp 12))
 h9:ai (o 9) 14 (.fieldAddr t.tR (.tmp 13) 1)
 wg:ai (o 10) 15 (.load t.te (.tmp 14))
 zt:ai (o 11) 16 (.binOp .eql t.te (.tmp 15) (.const (.int .i64 0)) t.te)
 ER:ai (o 12) 18 (.move (.tmp 5))
 Dp:ai (o 13) 19 (.move (.tmp 0))
 Dq:ai (o 14) 20 (.move (.tmp 0))
 Dr:ai (o 15) 21 (.move (.tmp 0))
 Bl:ai (o 16) 22 (.nilCheck (.tmp 21))
 DX:ai (o 17) 23 (.fieldAddr t.tR (.tmp 22) 0)
 Fl:ai (o 18) 24 (.load t.tY (.tmp 23))
 HL:ai (o 19) 25 (.call {callee:= .value (.func fTI),args:= #[.tmp 24],argTypes:= #[t.tY]})
 Lr:ai (o 20) 17 (.move (.tmp 25))
 Fm:ai (o 21) 26 (.extract (.tmp 17) 0)
 Fo:ai (o 22) 27 (.extract (.tmp 17) 1)
 KW:ai (o 23) 28 (.extract (.tmp 17) 2)
 KX:ai (o 24) 29 (.nilCheck (.tmp 18))
 KY:fN (o 25) (.store t.ti (.tmp 29) (.tmp 26))
 Ol:ai (o 26) 30 (.nilCheck (.tmp 19))
 Qj:ai (o 27) 31 (.fieldAddr t.tR (.tmp 30) 0)
 Rl:fN (o 28) (.store t.tY (.tmp 31) (.tmp 27))
 Rm:ai (o 29) 32 (.nilCheck (.tmp 20))
 Om:ai (o 30) 33 (.fieldAddr t.tR (.tmp 32) 1)
 Pe:fN (o 31) (.store t.te (.tmp 33) (.tmp 28))
 Pf:ai (o 32) 34 (.binOp .add t.ti (.tmp 8) (.const (.int .i64 1)) t.ti)
 Pg:ai (o 33) 8 (.move (.tmp 34))
structure ZO (P:Program) (f:Nat) (t:Xd) (fTI:Nat) (fn:Func) (r:Nat->Nat) (o:Nat->Oper):Prop where
 pos:P.funcs[f]? =some fn
 name:(fn.name== "runtime.NumGoroutine")=false
 tmps:fn.ntmps=35
 res:fn.results= #[]
 body:fn.body=some (Jt r o)
 ops:acz t fTI o
def Ju (r:Nat->Nat)(o:Nat->Oper):Code:= .seq (.region (r 0) #[o 0,o 1,o 2,o 3,o 4] false) (.cond (.tmp 10) (.region (r 1) #[o 5,o 6,o 7,o 8,o 9,o 10,o 11,o 12,o 13,o 14,o 15,o 16,o 17,o 18,o 19,o 20,o 21,o 22,o 23,o 24,o 25] false) .skip)
structure acA (t:Xd) (fTX:Nat) (o:Nat->Oper):Prop where
 h0:ai (o 0) 6 (.move (.tmp 0))
 h1:ai (o 1) 7 (.nilCheck (.tmp 6))
 h2:ai (o 2) 8 (.fieldAddr t.tR (.tmp 7) 1)
 h3:ai (o 3) 9 (.load t.te (.tmp 8))
 h4:ai (o 4) 10 (.binOp .eql t.te (.tmp 9) (.const (.int .i64 0)) t.te)
 h5:ai (o 5) 12 (.move (.tmp 1))
 h6:ai (o 6) 13 (.move (.tmp 0))
 h7:ai (o 7) 14 (.move (.tmp 0))
 h8:ai (o 8) 15 (.move (.tmp 0))
 h9:ai (o 9) 16 (.nilCheck (.tmp 15))
 wg:ai (o 10) 17 (.fieldAddr t.tR (.tmp 16) 0)
 zt:ai (o 11) 18 (.load t.tY (.tmp 17))
 ER:ai (o 12) 19 (.move (.tmp 2))
 Dp:ai (o 13) 20 (.call {callee:= .value (.func fTX),args:= #[.tmp 18,.tmp 19],argTypes:= #[t.tY,t.ti]})
 Dq:ai (o 14) 11 (.move (.tmp 20))
 Dr:ai (o 15) 21 (.extract (.tmp 11) 0)
 Bl:ai (o 16) 22 (.extract (.tmp 11) 1)
 DX:ai (o 17) 23 (.extract (.tmp 11) 2)
 Fl:ai (o 18) 24 (.nilCheck (.tmp 12))
 HL:fN (o 19) (.store t.tS (.tmp 24) (.tmp 21))
 Lr:ai (o 20) 25 (.nilCheck (.tmp 13))
 Fm:ai (o 21) 26 (.fieldAddr t.tR (.tmp 25) 0)
 Fo:fN (o 22) (.store t.tY (.tmp 26) (.tmp 22))
 KW:ai (o 23) 27 (.nilCheck (.tmp 14))
 KX:ai (o 24) 28 (.fieldAddr t.tR (.tmp 27) 1)
 KY:fN (o 25) (.store t.te (.tmp 28) (.tmp 23))
structure ZP (P:Program) (f:Nat) (t:Xd) (fTX:Nat) (fn:Func) (r:Nat->Nat) (o:Nat->Oper):Prop where
 pos:P.funcs[f]? =some fn
 name:(fn.name== "runtime.NumGoroutine")=false
 tmps:fn.ntmps=29
 res:fn.results= #[]
 body:fn.body=some (Ju r o)
 ops:acA t fTX o
section
variable {P:Program}{c:Ctx}{g:Nat->List MV->Option MV}{k:TkF}{t:Xd} {φ0 φ1 φ:Ph}{w0 W:World} {q q':Qy}{vs:List Value}{fn:Func}{r:Nat->Nat}{o:Nat->Oper}
theorem xj.lde (h:xj c φ0 w0 φ W q vs):W.cell? ⟨w0.heap.size+1,1,none⟩=some (.int .i64 q.e):=by obtain ⟨vb,T,h1,_⟩:=h.hr;rw [cell_of h1];rfl
theorem xj.aiX (h:xj c φ0 w0 φ W q vs)(H:acx P c g k t){ty:Nat}(ig: ∃I,c.tv ty=some I/\I.st=false/\I.size=1){j:Nat}(hj:j<8){v0 v1:Value}{m:MV}{xs:List MV}{e:Int}(h0:cV c.key φ v0 m)(h01:v0.cells.toList=[v0])(h02:v0.oneCell'=true)(h1:cV c.key φ v1 (.list xs)): ∃W1 W2 W3,(∀(oo:Oper) (x y:Operand) (ee:Operand->Value),fN oo (.store ty x y)->ee x= .pointer (some ⟨w0.heap.size+2,j,none⟩)->ee y=v0->(execOp ee oo).run P W= .ok .skip W1)/\ (∀(oo:Oper) (x y:Operand) (ee:Operand->Value),fN oo (.store t.tY x y)->ee x= .pointer (some ⟨w0.heap.size+1,0,none⟩)->ee y=v1->(execOp ee oo).run P W1= .ok .skip W2)/\ (∀(oo:Oper) (x y:Operand) (ee:Operand->Value),fN oo (.store t.te x y)->ee x= .pointer (some ⟨w0.heap.size+1,1,none⟩)->ee y= .int .i64 e->(execOp ee oo).run P W2= .ok .skip W3)/\ xj c φ0 w0 φ W3 ⟨xs,e,q.os.set j m⟩ (vs.set j v0):=by
 obtain ⟨I0,i1,i2,i3⟩:=ig;obtain ⟨IY,y1,y2,y3⟩:=H.tyY;obtain ⟨Ie,e1,e2,e3⟩:=H.tye;obtain ⟨g1,g2,g3⟩:=aea h1;obtain ⟨To,c1⟩:=h.ho;have k1:=h.amO (j:=j) h0;obtain ⟨vb,Tr,b1,b2⟩:=k1.hr;have k2:=k1.BD g1;obtain ⟨vb2,Tr2,b3,b4⟩:=k2.hr;have hvb:vb2=v1:=by have:=(eH [v1,.int .i64 q.e].toArray b1).symm.trans b3;simp at this;exact this.1.symm
 subst hvb;refine ⟨_,_,_,λoo x y ee ho hx hy=>Js ho H.hT i1 i3 hx hy h01 h02 c1 (by rw [h.n];exact hj),λoo x y ee ho hx hy=>Js ho H.hT y1 y3 hx hy g2 g3 b1 (by simp),λoo x y ee ho hx hy=>Js ho H.hT e1 e3 hx hy rfl rfl b3 (by simp),k2.amP e b4⟩
theorem acB (H:acx P c g k t){f ba:Nat}(F:ZO P f t k.ti fn r o){jF:List Nat}(ho: ∀j∈jF,j<8)(hlen:jF.length<100)(hb: ∀j (h:j<jF.length),φ1 ba j=some (.pointer (some ⟨w0.heap.size+2,jF[j],none⟩)))(hle:fY φ1 φ)(hM:xj c φ0 w0 φ W q vs)(hq:Ft g k jF q=some q'): cm P f #[.pointer (some ⟨w0.heap.size+1,0,none⟩),.slice (some ⟨ba,0,none⟩) jF.length jF.length] W λ_ W'=> ∃φ vs,fY φ1 φ/\xj c φ0 w0 φ W' q' vs:=by
 refine jU F.pos F.name F.body (calls_of_wp F.pos F.body ?_);rw [F.tmps];obtain ⟨IR,r1,r2,r3,r4⟩:=H.tyR;obtain ⟨IY,y1,y2,y3⟩:=H.tyY;obtain ⟨Ie,e1,e2,e3⟩:=H.tye;obtain ⟨II,p1,p2,p3⟩:=H.tyI;obtain ⟨hIi,Rg⟩:=aV p1;obtain ⟨iI,zI,hiI,hsI,_⟩:=iA (H.hT _ II hIi) Rg;have key: ∀a:Act,Tm a 35 (oV (oV (λ_=>undef) 0 (.pointer (some ⟨w0.heap.size+1,0,none⟩))) 1 (.slice (some ⟨ba,0,none⟩) jF.length jF.length))->(Jt r o).wp P (bodyPost P fn λe W=> ∃v,e= .returned v/\ ∃φ vs,fY φ1 φ/\xj c φ0 w0 φ W q' vs) a W:=by
  intro a af;unfold Jt;refine wp_seq (wp_region ?_);rw [show sh (#[o 0,o 1,o 2]:Array Oper).size=[0,1,2] from rfl];refine af.step (v:= .slice (some ⟨ba,0,none⟩) jF.length jF.length) rfl F.ops.h0 (by decide) (az F.ops.h0 _) (λa af=> ?_);refine af.step (v:= .int .i64 ((jF.length:Nat):Int)) rfl F.ops.h1 (by decide) (j7 F.ops.h1 H.acy rfl _) (λa af=> ?_);refine af.step (v:= .int .i64 0) rfl F.ops.h2 (by decide) (az F.ops.h2 _) (λa af=> ?_);refine wp_block (wp_loop (λa W=> ∃σ,Tm a 35 σ/\σ 0= .pointer (some ⟨w0.heap.size+1,0,none⟩)/\σ 6= .slice (some ⟨ba,0,none⟩) jF.length jF.length/\σ 7= .int .i64 ((jF.length:Nat):Int)/\ ∃j:Nat,j<=jF.length/\σ 8= .int .i64 (j:Int)/\ ∃φ q vs,fY φ1 φ/\xj c φ0 w0 φ W q vs/\Ft g k (jF.drop j) q=some q') (λa W=>match a.tmps.getD 8 undef with| .int _ j=>jF.length-j.toNat|_=>0) ?_ ?_)
  ·exact ⟨_,af,rfl,rfl,rfl,0,abD _,rfl,φ,q,vs,hle,hM,by simpa using hq⟩
  ·clear af hle hM hq;rintro a W ⟨σ,af,h0,h6,h7,j,hj,h8,φ,q,vs,hle,hM,hq⟩;have hm8:(match a.tmps.getD 8 undef with| .int _ j=>jF.length-j.toNat|_=>0)=jF.length-j:=by rw [af.get 8,h8];simp
   rw [hm8];clear hm8;refine wp_seq (wp_region ?_);rw [show sh (#[o 3]:Array Oper).size=[0] from rfl];refine af.step (v:= .bool (decide ((j:Int)<(jF.length:Int)))) rfl F.ops.h3 (by decide) (Ap F.ops.h3 h8 h7 _) (λa af=> ?_);refine wp_seq ?_;by_cases dO:j<jF.length;rotate_left
   ·refine af.cond (b:=false) (by show IN (decide ((j:Int)<(jF.length:Int)))=_;rw [decide_eq_false (by omega)]) ?_;simp only [AI,if_false];refine wp_exit ?_;rw [aaT (by omega)] at hq;simp only [Ft,bB] at hq;subst hq;exact ZD (P:=P) (R:=λ_ W=> ∃φ vs,fY φ1 φ/\xj c φ0 w0 φ W q vs) F.res af (λ_=>⟨φ,vs,hle,hM⟩)
   refine af.cond (b:=true) (by show IN (decide ((j:Int)<(jF.length:Int)))=_;rw [decide_eq_true (by omega)]) ?_;simp only [if_true];refine wp_skip ?_;rw [acv dO] at hq;simp only [Ft] at hq;have hpc:W.cell? ⟨ba,j,none⟩=some (.pointer (some ⟨w0.heap.size+2,jF[j],none⟩)):=hM.iK _ _ _ (hle _ _ _ (hb j dO));refine wp_seq (wp_block ?_);refine wp_seq (wp_region ?_);rw [show sh (#[o 4,o 5,o 6]:Array Oper).size=[0,1,2] from rfl];refine af.step rfl F.ops.h4 (by decide) (Ox (size:=1) F.ops.h4 H.acy hiI (by rw [hsI,p3]) h6 h8 dO _) (λa af=> ?_);refine af.step (v:= .pointer (some ⟨w0.heap.size+2,jF[j],none⟩)) rfl F.ops.h5 (by decide) (ew F.ops.h5 (cr H.hT p1 p2 p3 (by simpa using hpc))) (λa af=> ?_);refine af.step (v:= .pointer (some ⟨w0.heap.size+2,jF[j],none⟩)) rfl F.ops.h6 (by decide) (bD F.ops.h6 _) (λa af=> ?_);refine wp_seq (wp_region ?_);rw [show sh (#[o 7,o 8,o 9,o 10,o 11]:Array Oper).size=[0,1,2,3,4] from rfl];refine af.step (v:= .pointer (some ⟨w0.heap.size+1,0,none⟩)) rfl F.ops.h7 (by decide) ((az F.ops.h7 _).trans (by show AT (AS (σ 0)) W=_;rw [h0])) (λa af=> ?_);refine af.step rfl F.ops.h8 (by decide) (oW F.ops.h8 rfl _) (λa af=> ?_);refine af.step rfl F.ops.h9 (by decide) (gm F.ops.h9 H.hT r1 r2 (q:=1) (by rw [r3];rfl) rfl _) (λa af=> ?_);refine af.step (v:= .int .i64 q.e) rfl F.ops.wg (by decide) (ew F.ops.wg (cr H.hT e1 e2 e3 (by simpa using hM.lde))) (λa af=> ?_);refine af.step (v:= .bool (decide (q.e=0))) rfl F.ops.zt (by decide) (nA F.ops.zt rfl rfl _) (λa af=> ?_);have last: ∀(a:Act) (W:World) (σ:Nat->Value) (φ:Ph) (q:Qy) (vs:List Value),Tm a 35 σ->σ 0= .pointer (some ⟨w0.heap.size+1,0,none⟩)->σ 6= .slice (some ⟨ba,0,none⟩) jF.length jF.length->σ 7= .int .i64 ((jF.length:Nat):Int)->σ 8= .int .i64 (j:Int)-> fY φ1 φ->xj c φ0 w0 φ W q vs->Ft g k (jF.drop (j+1)) q=some q'-> (aaR (r 5) #[o 32,o 33] false).wp P (Exit.then (λa W=>(∃σ,Tm a 35 σ/\σ 0= .pointer (some ⟨w0.heap.size+1,0,none⟩)/\σ 6= .slice (some ⟨ba,0,none⟩) jF.length jF.length/\σ 7= .int .i64 ((jF.length:Nat):Int)/\ ∃j:Nat,j<=jF.length/\σ 8= .int .i64 (j:Int)/\ ∃φ q vs,fY φ1 φ/\xj c φ0 w0 φ W q vs/\Ft g k (jF.drop j) q=some q')/\(match a.tmps.getD 8 undef with| .int _ j=>jF.length-j.toNat|_=>0)<jF.length-j) (ady 0 (bodyPost P fn λe W=> ∃v,e= .returned v/\ ∃φ vs,fY φ1 φ/\xj c φ0 w0 φ W q' vs))) a W:=by
    intro a W σ φ q vs af h0 h6 h7 h8 hle hM hq;refine wp_region ?_;rw [show sh (#[o 32,o 33]:Array Oper).size=[0,1] from rfl];refine af.step (v:= .int .i64 ((j+1:Nat):Int)) rfl F.ops.Pf (by decide) (iP (q:=1) F.ops.Pf h8 rfl (by omega) _) (λa af=> ?_);refine af.step (v:= .int .i64 ((j+1:Nat):Int)) rfl F.ops.Pg (by decide) (az F.ops.Pg _) (λa af=> ?_);refine ⟨⟨_,af,h0,h6,h7,j+1,by omega,rfl,φ,q,vs,hle,hM,hq⟩,?_⟩;have:a.tmps.getD 8 undef= .int .i64 ((j+1:Nat):Int):=by rw [af.get 8];rfl
    rw [this];simp;omega
   by_cases he:q.e=0;rotate_left
   ·refine af.cond (b:=false) (by show IN (decide (q.e=0))=_;rw [decide_eq_false he]) ?_;simp only [AI,if_false];refine wp_skip ?_;rw [tkI,if_neg he] at hq;exact last a W _ φ q vs af h0 h6 h7 h8 hle hM hq
   refine af.cond (b:=true) (by show IN (decide (q.e=0))=_;rw [decide_eq_true he]) ?_;simp only [if_true];cases kR:tkI g k jF[j] q with
   |none=>rw [kR] at hq;cases hq
   |some q2=>
   rw [kR] at hq;dsimp only at hq;rw [tkI,if_pos he] at kR;split at kR;rotate_left
   ·cases kR
   rename_i n xs e PS;simp only [bB] at kR;subst kR;obtain ⟨vb,Tr,b1,b2⟩:=hM.hr;refine wp_region ?_;rw [show sh (#[o 12,o 13,o 14,o 15,o 16,o 17,o 18,o 19,o 20,o 21,o 22,o 23,o 24,o 25,o 26,o 27,o 28,o 29,o 30,o 31]:Array Oper).size=[0,1,2,3,4,5,6,7,8,9,10,11,12,13,14,15,16,17,18,19] from rfl];refine af.step (v:= .pointer (some ⟨w0.heap.size+2,jF[j],none⟩)) rfl F.ops.ER (by decide) (az F.ops.ER _) (λa af=> ?_);refine af.step (v:= .pointer (some ⟨w0.heap.size+1,0,none⟩)) rfl F.ops.Dp (by decide) ((az F.ops.Dp _).trans (by show AT (AS (σ 0)) W=_;rw [h0])) (λa af=> ?_);refine af.step (v:= .pointer (some ⟨w0.heap.size+1,0,none⟩)) rfl F.ops.Dq (by decide) ((az F.ops.Dq _).trans (by show AT (AS (σ 0)) W=_;rw [h0])) (λa af=> ?_);refine af.step (v:= .pointer (some ⟨w0.heap.size+1,0,none⟩)) rfl F.ops.Dr (by decide) ((az F.ops.Dr _).trans (by show AT (AS (σ 0)) W=_;rw [h0])) (λa af=> ?_);refine af.step rfl F.ops.Bl (by decide) (oW F.ops.Bl rfl _) (λa af=> ?_);refine af.step rfl F.ops.DX (by decide) (gm F.ops.DX H.hT r1 r2 (q:=0) (by rw [r3];rfl) rfl _) (λa af=> ?_);refine af.step (v:=vb) rfl F.ops.Fl (by decide) (ew F.ops.Fl (cr H.hT y1 y2 y3 (by rw [cell_of b1];rfl))) (λa af=> ?_);have Dm:cm P k.ti #[vb] W λx W'=> ∃φ',Trans (λb=>W.heap.size<=b) φ W φ' W'/\mb φ' W'/\gK c (λb=>W.heap.size<=b) φ' W' (c.key k.ti) x (.bW [.i .i64 n,.list xs,.i .i64 e]):=sJ (vs:=[vb]) (by rw [H.key];exact H.gv.1) (H.snd _ _ _ PS) rfl ⟨_,_,rfl,⟨rfl,b2⟩,rfl⟩ hM.iK;refine af.call rfl F.ops.HL (by decide) (Un F.ops.HL rfl rfl _) Dm ?_;rintro x1 W1 a ⟨φ2,t1,m1,mP⟩ af;obtain ⟨arr,rfl,mP⟩: ∃arr,x1= .tuple arr/\aY c.key φ2 arr.toList [.i .i64 n,.list xs,.i .i64 e]:=mP;obtain ⟨x,y,z,a1,a2,a3,q1,q2,q3⟩:=mP.three;have hx:=Qt q1;have hz:=Qt q3;subst hx hz;have hM1:=hM.grow t1 m1;obtain ⟨Wa,Wb,Wc,s1,s2,s3,hM2⟩:=hM1.aiX H H.tyi (ho _ (aez dO)) q1 rfl rfl q2 (e:=e);refine af.step (v:= .tuple arr) rfl F.ops.Lr (by decide) (az F.ops.Lr _) (λa af=> ?_);refine af.step (v:= .int .i64 n) rfl F.ops.Fm (by decide) (wH F.ops.Fm rfl a1 _) (λa af=> ?_);refine af.step (v:=y) rfl F.ops.Fo (by decide) (wH F.ops.Fo rfl a2 _) (λa af=> ?_);refine af.step (v:= .int .i64 e) rfl F.ops.KW (by decide) (wH F.ops.KW rfl a3 _) (λa af=> ?_);refine af.step rfl F.ops.KX (by decide) (oW F.ops.KX rfl _) (λa af=> ?_);refine af.wG rfl F.ops.KY (s1 _ _ _ _ F.ops.KY rfl rfl) ?_;refine af.step rfl F.ops.Ol (by decide) (oW F.ops.Ol rfl _) (λa af=> ?_);refine af.step rfl F.ops.Qj (by decide) (gm F.ops.Qj H.hT r1 r2 (q:=0) (by rw [r3];rfl) rfl _) (λa af=> ?_);refine af.wG rfl F.ops.Rl (s2 _ _ _ _ F.ops.Rl rfl rfl) ?_;refine af.step rfl F.ops.Rm (by decide) (oW F.ops.Rm rfl _) (λa af=> ?_);refine af.step rfl F.ops.Om (by decide) (gm F.ops.Om H.hT r1 r2 (q:=1) (by rw [r3];rfl) rfl _) (λa af=> ?_);refine af.wG rfl F.ops.Pe (s3 _ _ _ _ F.ops.Pe rfl rfl) ?_;exact last a Wc _ φ2 _ _ af h0 h6 h7 h8 (hle.trans t1.ph) hM2 hq
 exact key _ (tm2 _ _ 33)
theorem Ur (H:acx P c g k t){f:Nat}(F:ZP P f t k.tx fn r o){j:Nat}(hj:j<8){most:Int}(hle:fY φ1 φ)(hM:xj c φ0 w0 φ W q vs)(hq:Qz g k j most q=some q'): cm P f #[.pointer (some ⟨w0.heap.size+1,0,none⟩),.pointer (some ⟨w0.heap.size+2,j,none⟩),.int .i64 most] W λ_ W'=> ∃φ vs,fY φ1 φ/\xj c φ0 w0 φ W' q' vs:=by
 refine jU F.pos F.name F.body (calls_of_wp F.pos F.body ?_);rw [F.tmps];obtain ⟨IR,r1,r2,r3,r4⟩:=H.tyR;obtain ⟨IY,y1,y2,y3⟩:=H.tyY;obtain ⟨Ie,e1,e2,e3⟩:=H.tye;have key: ∀a:Act,Tm a 29 (oV (oV (oV (λ_=>undef) 0 (.pointer (some ⟨w0.heap.size+1,0,none⟩))) 1 (.pointer (some ⟨w0.heap.size+2,j,none⟩))) 2 (.int .i64 most))->(Ju r o).wp P (bodyPost P fn λe W=> ∃v,e= .returned v/\ ∃φ vs,fY φ1 φ/\xj c φ0 w0 φ W q' vs) a W:=by
  intro a af;unfold Ju;refine wp_seq (wp_region ?_);rw [show sh (#[o 0,o 1,o 2,o 3,o 4]:Array Oper).size=[0,1,2,3,4] from rfl];refine af.step (v:= .pointer (some ⟨w0.heap.size+1,0,none⟩)) rfl F.ops.h0 (by decide) (az F.ops.h0 _) (λa af=> ?_);refine af.step rfl F.ops.h1 (by decide) (oW F.ops.h1 rfl _) (λa af=> ?_);refine af.step rfl F.ops.h2 (by decide) (gm F.ops.h2 H.hT r1 r2 (q:=1) (by rw [r3];rfl) rfl _) (λa af=> ?_);refine af.step (v:= .int .i64 q.e) rfl F.ops.h3 (by decide) (ew F.ops.h3 (cr H.hT e1 e2 e3 (by simpa using hM.lde))) (λa af=> ?_);refine af.step (v:= .bool (decide (q.e=0))) rfl F.ops.h4 (by decide) (nA F.ops.h4 rfl rfl _) (λa af=> ?_);by_cases he:q.e=0;rotate_left
  ·refine af.cond (b:=false) (by show IN (decide (q.e=0))=_;rw [decide_eq_false he]) ?_;simp only [AI,if_false];refine wp_skip ?_;rw [Qz,if_neg he] at hq;simp only [bB] at hq;subst hq;exact ZD F.res af (λ_=>⟨φ,vs,hle,hM⟩)
  refine af.cond (b:=true) (by show IN (decide (q.e=0))=_;rw [decide_eq_true he]) ?_;simp only [if_true];rw [Qz,if_pos he] at hq;split at hq;rotate_left
  ·cases hq
  rename_i l xs e PS;simp only [bB] at hq;subst hq;obtain ⟨vb,Tr,b1,b2⟩:=hM.hr;refine wp_region ?_;rw [show sh (#[o 5,o 6,o 7,o 8,o 9,o 10,o 11,o 12,o 13,o 14,o 15,o 16,o 17,o 18,o 19,o 20,o 21,o 22,o 23,o 24,o 25]:Array Oper).size=[0,1,2,3,4,5,6,7,8,9,10,11,12,13,14,15,16,17,18,19,20] from rfl];refine af.step (v:= .pointer (some ⟨w0.heap.size+2,j,none⟩)) rfl F.ops.h5 (by decide) (az F.ops.h5 _) (λa af=> ?_);refine af.step (v:= .pointer (some ⟨w0.heap.size+1,0,none⟩)) rfl F.ops.h6 (by decide) (az F.ops.h6 _) (λa af=> ?_);refine af.step (v:= .pointer (some ⟨w0.heap.size+1,0,none⟩)) rfl F.ops.h7 (by decide) (az F.ops.h7 _) (λa af=> ?_);refine af.step (v:= .pointer (some ⟨w0.heap.size+1,0,none⟩)) rfl F.ops.h8 (by decide) (az F.ops.h8 _) (λa af=> ?_);refine af.step rfl F.ops.h9 (by decide) (oW F.ops.h9 rfl _) (λa af=> ?_);refine af.step rfl F.ops.wg (by decide) (gm F.ops.wg H.hT r1 r2 (q:=0) (by rw [r3];rfl) rfl _) (λa af=> ?_);refine af.step (v:=vb) rfl F.ops.zt (by decide) (ew F.ops.zt (cr H.hT y1 y2 y3 (by rw [cell_of b1];rfl))) (λa af=> ?_);refine af.step (v:= .int .i64 most) rfl F.ops.ER (by decide) (az F.ops.ER _) (λa af=> ?_);have Dm:cm P k.tx #[vb,.int .i64 most] W λx W'=> ∃φ',Trans (λb=>W.heap.size<=b) φ W φ' W'/\mb φ' W'/\gK c (λb=>W.heap.size<=b) φ' W' (c.key k.tx) x (.bW [.s l,.list xs,.i .i64 e]):=sJ (vs:=[vb,.int .i64 most]) (by rw [H.key];exact H.gv.2.1) (H.snd _ _ _ PS) rfl ⟨_,_,rfl,⟨rfl,b2⟩,_,_,rfl,mQ,rfl⟩ hM.iK;refine af.call rfl F.ops.Dp (by decide) (uX F.ops.Dp rfl rfl rfl _) Dm ?_;rintro x1 W1 a ⟨φ2,t1,m1,mP⟩ af;obtain ⟨arr,rfl,mP⟩: ∃arr,x1= .tuple arr/\aY c.key φ2 arr.toList [.s l,.list xs,.i .i64 e]:=mP;obtain ⟨x,y,z,a1,a2,a3,q1,q2,q3⟩:=mP.three;have hz:=Qt q3;subst hz;have hx:x.cells.toList=[x]/\x.oneCell'=true:=by obtain ⟨_,hx⟩:=q1;generalize hv:[x]=lx at hx;cases hx;simp at hv;subst hv;exact ⟨rfl,rfl⟩
  have hM1:=hM.grow t1 m1;obtain ⟨Wa,Wb,Wc,s1,s2,s3,hM2⟩:=hM1.aiX H H.tyS hj q1 hx.1 hx.2 q2 (e:=e);refine af.step (v:= .tuple arr) rfl F.ops.Dq (by decide) (az F.ops.Dq _) (λa af=> ?_);refine af.step (v:=x) rfl F.ops.Dr (by decide) (wH F.ops.Dr rfl a1 _) (λa af=> ?_);refine af.step (v:=y) rfl F.ops.Bl (by decide) (wH F.ops.Bl rfl a2 _) (λa af=> ?_);refine af.step (v:= .int .i64 e) rfl F.ops.DX (by decide) (wH F.ops.DX rfl a3 _) (λa af=> ?_);refine af.step rfl F.ops.Fl (by decide) (oW F.ops.Fl rfl _) (λa af=> ?_);refine af.wG rfl F.ops.HL (s1 _ _ _ _ F.ops.HL rfl rfl) ?_;refine af.step rfl F.ops.Lr (by decide) (oW F.ops.Lr rfl _) (λa af=> ?_);refine af.step rfl F.ops.Fm (by decide) (gm F.ops.Fm H.hT r1 r2 (q:=0) (by rw [r3];rfl) rfl _) (λa af=> ?_);refine af.wG rfl F.ops.Fo (s2 _ _ _ _ F.ops.Fo rfl rfl) ?_;refine af.step rfl F.ops.KW (by decide) (oW F.ops.KW rfl _) (λa af=> ?_);refine af.step rfl F.ops.KX (by decide) (gm F.ops.KX H.hT r1 r2 (q:=1) (by rw [r3];rfl) rfl _) (λa af=> ?_);refine af.wG rfl F.ops.KY (s3 _ _ _ _ F.ops.KY rfl rfl) ?_;exact ZD F.res af (λ_=>⟨φ2,_,hle.trans t1.ph,hM2⟩)
 exact key _ (tm3 _ _ _ 26)
end
end Dn
/-
  Parts that are taken off bytes, into a variable of eight parts: the walk. Conditions: none.
-/
namespace Dn
open Go
def Jv (r:Nat->Nat)(o:Nat->Oper):Code:= .seq (.region (r 0) #[o 0,o 1,o 2] false) (.seq (.region (r 1) #[o 3,o 4,o 5,o 6] false) (.seq (.region (r 2) #[o 7,o 8,o 9] false) (.seq (.region (r 3) #[o 10,o 11,o 12,o 13,o 14,o 15,o 16,o 17,o 18] false) (.seq (.region (r 4) #[o 19,o 20,o 21] false) (.seq (.region (r 5) #[o 22,o 23,o 24] false) (.seq (.block 0 (.seq (.region (r 6) #[o 25,o 26,o 27,o 28,o 29,o 30] false) (.cond (.tmp 26) (.seq (.region (r 7) #[o 31,o 32,o 33,o 34,o 35,o 36,o 37,o 38] true) .ret) (.seq (.region (r 8) #[o 39,o 40,o 41,o 42] false) (.cond (.tmp 37) (.seq (.region (r 9) #[o 43,o 44,o 45,o 46] false) .ret) .skip))))) (.seq (.region (r 10) #[o 47,o 48,o 49,o 50,o 51,o 52,o 53,o 54] true) .ret)))))))
structure acC (t:Xd) (fI fX fM:Nat) (o:Nat->Oper):Prop where
 h0:ai (o 0) 2 (.alloc t.tO)
 h1:ai (o 1) 3 (.assign (.const (.slice none 0 0)))
 h2:ai (o 2) 4 (.assign (.const (.int .i64 0)))
 h3:ai (o 3) 7 (.move (.tmp 0))
 h4:ai (o 4) 8 (.build t.tR #[(0,.tmp 7)])
 h5:ai (o 5) 9 (.box t.tR (.tmp 8))
 h6:ai (o 6) 5 (.assign (.tmp 9))
 h7:ai (o 7) 10 (.build t.tO #[])
 h8:ai (o 8) 6 (.alloc t.tO)
 h9:fN (o 9) (.store t.tO (.tmp 6) (.tmp 10))
 wg:ai (o 10) 11 (.move (.tmp 5))
 zt:ai (o 11) 12 (.fieldAddr t.tO (.tmp 6) 0)
 ER:ai (o 12) 13 (.fieldAddr t.tO (.tmp 6) 1)
 Dp:ai (o 13) 14 (.fieldAddr t.tO (.tmp 6) 2)
 Dq:ai (o 14) 15 (.fieldAddr t.tO (.tmp 6) 5)
 Dr:ai (o 15) 16 (.fieldAddr t.tO (.tmp 6) 6)
 Bl:ai (o 16) 17 (.fieldAddr t.tO (.tmp 6) 7)
 DX:ai (o 17) 18 (.buildSlice t.tL 6 #[(0,.tmp 12),(1,.tmp 13),(2,.tmp 14),(3,.tmp 15),(4,.tmp 16),(5,.tmp 17)])
 Fl:ai (o 18) 19 (.call {callee:= .value (.func fI),args:= #[.tmp 11,.tmp 18],argTypes:= #[t.tQ,t.tL]})
 HL:ai (o 19) 20 (.move (.tmp 5))
 Lr:ai (o 20) 21 (.fieldAddr t.tO (.tmp 6) 3)
 Fm:ai (o 21) 22 (.call {callee:= .value (.func fX),args:= #[.tmp 20,.tmp 21,.const (.int .i64 100)],argTypes:= #[t.tQ,t.tX,t.ti]})
 Fo:ai (o 22) 23 (.move (.tmp 5))
 KW:ai (o 23) 24 (.fieldAddr t.tO (.tmp 6) 4)
 KX:ai (o 24) 25 (.call {callee:= .value (.func fX),args:= #[.tmp 23,.tmp 24,.const (.int .i64 1000)],argTypes:= #[t.tQ,t.tX,t.ti]})
 KY:ai (o 25) 27 (.move (.tmp 5))
 Ol:ai (o 26) 28 (.nilCheck (.tmp 27))
 Qj:ai (o 27) 29 (.fieldAddr t.tR (.tmp 28) 1)
 Rl:ai (o 28) 30 (.load t.te (.tmp 29))
 Rm:ai (o 29) 31 (.binOp .neq t.te (.tmp 30) (.const (.int .i64 0)) t.te)
 Om:ai (o 30) 26 (.assign (.tmp 31))
 Pe:ai (o 31) 32 (.build t.tO #[])
 Pf:ai (o 32) 33 (.move (.tmp 5))
 Pg:ai (o 33) 34 (.nilCheck (.tmp 33))
 Qk:ai (o 34) 35 (.fieldAddr t.tR (.tmp 34) 1)
 Rn:ai (o 35) 36 (.load t.te (.tmp 35))
 Sx:fN (o 36) (.store t.tO (.tmp 2) (.tmp 32))
 Ro:ai (o 37) 3 (.assign (.const (.slice none 0 0)))
 Sy:ai (o 38) 4 (.assign (.tmp 36))
 Zd:ai (o 39) 38 (.load t.tO (.tmp 6))
 Ze:ai (o 40) 39 (.call {callee:= .value (.func fM),args:= #[.tmp 38],argTypes:= #[t.tO]})
 Zf:ai (o 41) 40 (.unOp .not t.tB (.tmp 39))
 Zg:ai (o 42) 37 (.assign (.tmp 40))
 Zh:ai (o 43) 41 (.build t.tO #[])
 Zj:fN (o 44) (.store t.tO (.tmp 2) (.tmp 41))
 h45:ai (o 45) 3 (.assign (.const (.slice none 0 0)))
 h46:ai (o 46) 4 (.assign (.const (.int .i64 3)))
 Zk:ai (o 47) 42 (.load t.tO (.tmp 6))
 Vf:ai (o 48) 43 (.move (.tmp 5))
 Rq:ai (o 49) 44 (.nilCheck (.tmp 43))
 Sz:ai (o 50) 45 (.fieldAddr t.tR (.tmp 44) 0)
 SA:ai (o 51) 46 (.load t.tY (.tmp 45))
 Rr:fN (o 52) (.store t.tO (.tmp 2) (.tmp 42))
 Rs:ai (o 53) 3 (.assign (.tmp 46))
 Ql:ai (o 54) 4 (.assign (.const (.int .i64 0)))
def Us:List Value:=[.int .i64 0,.int .i64 0,.int .i64 0,.string abW,.string abW,.int .i64 0,.int .i64 0,.int .i64 0]
structure Aq (P:Program) (c:Ctx) (g:Nat->List MV->Option MV) (k:TkF) (t:Xd) (f fI fX:Nat) (fn:Func) (r:Nat->Nat) (o:Nat->Oper):Prop extends acx P c g k t where
 pos:P.funcs[f]? =some fn
 name:(fn.name== "runtime.NumGoroutine")=false
 tmps:fn.ntmps=47
 res:fn.results= #[.cell 2 t.tO,.tmp 3,.tmp 4]
 body:fn.body=some (Jv r o)
 ops:acC t fI fX k.may o
 ints: ∃BJ r1 o1,ZO P fI t k.ti BJ r1 o1
 text: ∃M3 r2 o2,ZP P fX t k.tx M3 r2 o2
 Zl:P.follows .mixedOrders=true
 d7:pS c #[o 31,o 32,o 33,o 34,o 35,o 36,o 37,o 38] [0,1,2,3,4,5,6,7]=true
 d10:pS c #[o 47,o 48,o 49,o 50,o 51,o 52,o 53,o 54] [0,1,2,3,4,5,6,7]=true
 s35:still c (o 35)=true
 s47:still c (o 47)=true
 s51:still c (o 51)=true
 m38:dX c (o 38)=false
 m53:dX c (o 53)=false
 gvF:c.cR f=false
 tyL: ∃I,c.tv t.tL=some I/\I.elem=t.tI
 blR: ∀ad n cp,P.built t.tR [(0,.slice ad n cp)]=some #[.slice ad n cp,.int .i64 0]
 blO:P.built t.tO []=some Us.toArray
theorem DS.ZQ {P:Program}{c:Ctx}{ops:Array Oper}{N:Act->World->Prop} {φ:Ph}{o:Oper}{a:Act}{w:World}{n:Nat} {σ:Nat->Value}{x d:Nat}{rest pre:List Nat}{listed:Array Bool}{op:Op}{v:Value}(h:DS c ops pre (x::rest) listed)(hx:ops[x]? =some o)(ho:ai o d op)(hd:d<n)(K8:dY o=true)(hmv:dX c o=false)(hld:jB c o=true)(dB:still c o=true)(af:Tm a n σ)(hi:mb φ w)(bA: ∀w',mb φ w'->(execOp (ev σ) o).run P w'= .ok (.value v) w')(Mu: ∀a',Tm a' n (oV σ d v)->DS c ops (x::pre) rest (listed.setIfInBounds x true)->zq P c ops N φ rest.length (listed.setIfInBounds x true) a' w):zq P c ops N φ (rest.length+1) listed a w:=by
 obtain ⟨Ak,Jb,s7,lY,d4⟩:=h.facts hx;simp only [K8,hmv,adS,Bool.and_self,cond_true] at d4;obtain ⟨D,D1,D2,D3,D4⟩:=vH rest [x] d4 (λy hy df=>absurd (by simpa using hy) df);have hL:=h.lst;refine xJ (v:=v) D3 hx h.sel rest.length listed a w ?_ ?_ s7 ?_ hi ?_
 ·intro j oj Sl hjD hjx P7;have Qb:j<ops.size:=(aas.1 Sl).1;have hjr:j∈rest:=by
   rcases h.all j Qb with h1|h1
   ·exact absurd h1 ((hL.oU Qb).1 P7)
   ·rcases aba.1 h1 with h1|h1
    ·exact absurd h1 hjx
    ·exact h1
  obtain ⟨p,U8,KT,hp3⟩:=D4 j hjr hjD;rw [Sl] at U8;cases U8;exact ⟨KT,λhl hs=>by rw [dB] at hs;cases hs⟩
 ·intro d hd;have hdn:d∉pre:=by
   rcases D2 d hd with h1|h1
   ·have h1:d=x:=by simpa using h1
    rw [h1];exact Ak
   ·exact λhp=>lG rest (x::pre) lY.dr d h1 (by simp [hp])
  by_cases Rj:d<ops.size
  ·cases hg:listed.getD d false with
   |false=>rfl
   |true=>exact absurd ((hL.done Rj).1 hg) hdn
  ·have hl: ¬d<listed.size:=by rw [hL.size];exact Rj
   simp [hl]
 ·refine .inl ⟨by simp [acQ,ho.guard],λw' hg=> ?_⟩;rw [af.eval];exact bA w' (hg hld).2
 ·rw [ho.dst];exact Mu _ (af.put hd v) lY
section
variable {P:Program}{c:Ctx}{g:Nat->List MV->Option MV}{k:TkF}{t:Xd}{f fI fX:Nat}{fn:Func}{r:Nat->Nat}{o:Nat->Oper} {φ0 φ1 φ:Ph} {w0 W W':World} {q q':Qy}{vs:List Value}{a:Act} {σ:Nat->Value}
theorem HR {o:Oper}{d t:Nat}{parts:Array (Nat×Operand)}{e:Operand->Value}{out:Array Value}(ho:ai o d (.build t parts))(hb:P.built t (parts.toList.map λp=>(p.1,e p.2))=some out)(w:World):(execOp e o).run P w= .ok (.value (.agg out)) w:=by have:=run_build (P:=P) w t (parts.map λ(i,x)=>(i,e x)) out (by simpa using hb);simp [execOp,ho.op] at this⊢;simp [this]
theorem acD {o:Oper}{d:Nat} {t t':TypeId}{x y:Operand}{e:Operand->Value}{p q:Int}(ho:ai o d (.binOp .neq t x y t'))(hx:e x= .int .i64 p)(hy:e y= .int .i64 q)(w:World):(execOp e o).run P w= .ok (.value (.bool (!decide (p=q)))) w:=s8 ho hx hy (λw=>by simp [Go.binOp,Op.intCmp];rfl) w
theorem Ea {o:Oper}{t:TypeId}{I:TI}{x y:Operand}{e:Operand->Value}{g:Nat}{arr:Array Value}{T:TypeId}{w:World}(ho:fN o (.store t x y))(hT:fZ P c.ti)(hI:c.tv t=some I)(hs:I.size=vs.length)(hx:e x= .pointer (some ⟨g,0,none⟩))(hy:e y= .agg vs.toArray)(h1: ∀u∈vs,u.oneCell'=true)(ct:w.heap[g]? =some (.cells arr T (0,0)))(hn:arr.size=vs.length):(execOp e o).run P w= .ok .skip (w.setRow g vs.toArray):=by
 obtain ⟨kR,B1⟩:=aV hI;have hc:(adr vs.toArray).cells.toList=vs:=by simp [abB]
 rw [xN (v:= .agg vs.toArray) ho (hT _ _ kR) B1 hx hy (by rw [hc,hs]) (by rw [hc];exact h1) ct (by rw [hs,hn];omega),hc,hs];have:arr.toList.drop (0+vs.length)=[]:=by rw [aaY,aaT];rw [aaS,hn];exact OF _
 rw [this];simp
theorem aY.Vd {key:Nat->Nat} {φ:Ph}: ∀{ms:List MV} {vs:List Value},(∀m∈ms,m.one=true)->aY key φ vs ms->fe key φ vs ms:=by
 intro ms;induction ms with
 |nil=>intro vs _ h;have h:vs=[]:=h;subst h;exact .nil
 |cons m ms ih=>intro vs h1 h;obtain ⟨v,r,rfl,h2,h3⟩:=h;refine .cons [v] m r ms ?_ (ih (λm hm=>h1 m (by simp [hm])) h3);have:=h1 m (by simp);cases m<;>first|exact h2.2|(simp [MV.one] at this)
theorem aY.Ac {key:Nat->Nat} {φ:Ph}{ms:List MV}{vs:List Value}(h:fe key φ vs ms): ∀u∈vs,u.oneCell'=true:=h.cells
theorem Ut {os:List MV}{j:Nat}{m:MV}(h: ∀m∈os,m.one=true)(hm:m.one=true): ∀x∈os.set j m,x.one=true:=by
 intro x hx;rcases List.mem_or_eq_of_mem_set hx with hx|rfl
 ·exact h x hx
 ·exact hm
theorem acE {j:Nat}(h: ∀m∈q.os,m.one=true)(hq:tkI g k j q=some q'): ∀m∈q'.os,m.one=true:=by
 unfold tkI at hq;split at hq
 ·split at hq
  ·simp only [bB] at hq;subst hq;exact Ut h rfl
  ·cases hq
 ·simp only [bB] at hq;subst hq;exact h
theorem Uu {j:Nat}{most:Int}(h: ∀m∈q.os,m.one=true)(hq:Qz g k j most q=some q'): ∀m∈q'.os,m.one=true:=by
 unfold Qz at hq;split at hq
 ·split at hq
  ·simp only [bB] at hq;subst hq;exact Ut h rfl
  ·cases hq
 ·simp only [bB] at hq;subst hq;exact h
theorem ZR {l:List Nat}: ∀{q:Qy},(∀m∈q.os,m.one=true)->Ft g k l q=some q'-> ∀m∈q'.os,m.one=true:=by
 induction l with
 |nil=>intro q h hq;simp only [Ft,bB] at hq;subst hq;exact h
 |cons j l ih=>
  intro q h hq;simp only [Ft] at hq;cases h1:tkI g k j q with
  |none=>rw [h1] at hq;cases hq
  |some q2=>rw [h1] at hq;exact ih (acE h h1) hq
theorem OE {key:Nat->Nat} {φ:Ph}:aY key φ Us Xc:=⟨_,_,rfl,mQ,_,_,rfl,mQ,_,_,rfl,mQ,_,_,rfl,⟨rfl,.s _⟩,_,_,rfl,⟨rfl,.s _⟩,_,_,rfl,mQ,_,_,rfl,mQ,_,_,rfl,mQ,rfl⟩
theorem OG: ∀m∈Xc,m.one=true:=by intro m hm;simp [Xc] at hm;rcases hm with rfl|rfl|rfl|rfl|rfl|rfl|rfl|rfl<;>rfl
theorem Jw (H:Aq P c g k t f fI fX fn r o)(af:Tm a 47 σ)(hb: ∃T,W.heap[w0.heap.size]? =some (.cells vs.toArray T (0,0)))(hn:vs.length=8)(h2:σ 2= .pointer (some ⟨w0.heap.size,0,none⟩)){R:Value->World->Prop}(h:R (.tuple #[.agg vs.toArray,σ 3,σ 4]) W): bodyPost P fn (λe W=> ∃v,e= .returned v/\R v W) .ret a W:=by
 obtain ⟨Iy,p1,p2,p3,p4⟩:=H.tyO;obtain ⟨T,hb⟩:=hb;refine ⟨af.defers,.tuple #[.agg vs.toArray,σ 3,σ 4],?_,_,rfl,h⟩;have ZS:(loadVar t.tO ⟨w0.heap.size,0,none⟩).run P W= .ok (.agg vs.toArray) W:=by have:=jg (P:=P) (w:=W) (g:=w0.heap.size) (off:=0) H.hT p1 p2 (by rw [hn,p4]) (wOf hb (by simp));simpa [BY,adX] using this
 have Ld:a.tmps[2]?.getD undef= .pointer (some ⟨w0.heap.size,0,none⟩):=by have:=(af.get 2).trans h2;simpa using this
 have h3':a.tmps[3]?.getD undef=σ 3:=by have:=af.get 3;simpa using this
 have h4':a.tmps[4]?.getD undef=σ 4:=by have:=af.get 4;simpa using this
 simp [results,H.res,Ld,h3',h4',ZS,asAddr]
end
end Dn
/-
  Parts that are taken off bytes, into a variable of eight parts: from the beginning to the end. Conditions: none.
-/
namespace Dn
open Go
section
variable {P:Program}{c:Ctx}{g:Nat->List MV->Option MV}{k:TkF}{t:Xd}{f fI fX:Nat}{fn:Func}{r:Nat->Nat}{o:Nat->Oper} {φ0 φ1 φ φt:Ph} {w0 W W':World} {q q':Qy}{vs:List Value}{a:Act} {σ:Nat->Value}{res:MV}
def Jx (c:Ctx) (φ0:Ph)(w0:World)(res:MV)(v:Value)(W:World):Prop:= ∃φ',Trans (λb=>w0.heap.size<=b) φ0 w0 φ' W/\mb φ' W/\ ∃ms arr,res= .bW ms/\v= .tuple arr/\aY c.key φ' arr.toList ms
theorem xj.sea1 (h:xj c φ0 w0 φ W q vs): ∃φt vb,fY φ φt/\mb φt W/\(∀b o,b≠w0.heap.size+1->b≠w0.heap.size+2->φt b o=φ b o)/\φt (w0.heap.size+1) 0=some vb/\φt (w0.heap.size+1) 1=some (.int .i64 q.e)/\gk c.key φt [vb] (.list q.xs)/\ ∀j,φt (w0.heap.size+2) j=vs[j]? :=by
 obtain ⟨vb,Tr,b1,b2⟩:=h.hr;obtain ⟨To,c1⟩:=h.ho;have f1: ∀o,φ (w0.heap.size+1) o=none:=λo=>h.f 1 o (by decide);have l1:=Fq (vs:=[vb,.int .i64 q.e]) f1;have f2: ∀o,HQ φ (w0.heap.size+1) [vb,.int .i64 q.e] (w0.heap.size+2) o=none:=λo=>by unfold HQ;rw [if_neg (by omega)];exact h.f 2 o (by decide)
 have l2:=Fq (vs:=vs) f2;refine ⟨_,vb,l1.trans l2,D7 (D7 h.iK b1) c1,λb o n1 n2=>by unfold HQ;rw [if_neg n2,if_neg n1],?_,?_,b2.mono (l1.trans l2),λj=>by simp [HQ]⟩
 ·exact l2 _ _ _ (by simp [HQ])
 ·exact l2 _ _ _ (by simp [HQ])
theorem xj.close (h:xj c φ0 w0 φ W q vs)(hle:fY φ φt)(hi:mb φt W) (hφ: ∀b o,b≠w0.heap.size+1->b≠w0.heap.size+2->φt b o=φ b o)(hs:W'.heap.size=W.heap.size)(hr:Rest W W')(ho: ∀b,b≠w0.heap.size->W'.heap[b]? =W.heap[b]?):Trans (λb=>w0.heap.size<=b) φ0 w0 φt W'/\mb φt W':=by
 refine ⟨⟨h.tr.ph.trans hle,λb hb hl=> ?_,λb o hb=> ?_,by rw [hs];exact h.tr.size,h.tr.rest.trans hr⟩,λb o u hu=>sI (hi b o u hu) λhl=>ho b λe=> ?_⟩
 ·rw [ho b (by omega)];exact h.tr.heap b hb hl
 ·rw [hφ b o (by omega) (by omega)];exact h.tr.free b o hb
 ·rw [hφ b o (by omega) (by omega),e,show w0.heap.size=w0.heap.size+0 from rfl,h.f 0 o (by decide)] at hu;cases hu
theorem Tm.aeb {ops:Array Oper}{o:Oper}{x n:Nat}{op:Op} {w w':World}{Q:Exit->Act->World->Prop}{K:Act->World->Prop}(af:Tm a n σ)(hi:ops[x]? =some o)(ho:fN o op)(bA:(execOp (ev σ) o).run P w= .ok .skip w')(h:K a w'):wpOp P ops Q x K a w:=by unfold wpOp;simp only [hi,acQ,ho.guard,if_true];left;unfold Oper.wp;rw [af.eval,bA];simp only [Oper.upon];rw [ho.dst];exact h
theorem Uv {p oi:Oper}{t:TypeId}{x y:Operand}(h:fN p (.store t x y)):(E0 c p||pI oi p)=false:=by
 have h1:E0 c p=false:=by simp [E0,dY,zl,h.op]
 have h2:pI oi p=false:=by unfold pI;simp [UZ,h.op]
 rw [h1,h2];rfl
theorem lH {p:Oper}{d:Nat}{op:Op}(h:ai p d op)(hn: ∀t x,op≠ .load t x):still c p=false:=by unfold still;rw [h.op];cases op<;>first|rfl|exact absurd rfl (hn _ _)
theorem Fu: ∀u∈Us,u.oneCell'=true:=by intro m hm;simp [Us] at hm;rcases hm with rfl|rfl|rfl|rfl|rfl|rfl|rfl|rfl<;>rfl
theorem Uw {key:Nat->Nat} {φ:Ph}:gk key φ [aeA none 0 0] (.list []):= .list none 0 [] 0 0 0 (λ_=>[]) (by simp) (by simp) (by simp) (by simp) (by simp)
theorem SK {φ':Ph}{ms:List MV}{xs:List MV}{e:Int}{us:List Value}{v:Value}(t1:Trans (λb=>w0.heap.size<=b) φ0 w0 φ' W)(t2:mb φ' W)(h1:fe c.key φ' us ms)(h2:gk c.key φ' [v] (.list xs)):Jx c φ0 w0 (.bW [.agg ms,.list xs,.i .i64 e]) (.tuple #[.agg us.toArray,v,.int .i64 e]) W:=⟨φ',t1,t2,_,_,rfl,rfl,_,_,rfl,s9 h1,_,_,rfl,⟨rfl,h2⟩,_,_,rfl,mQ,rfl⟩
theorem VZ (H:Aq P c g k t f fI fX fn r o)(hM:xj c φ0 w0 φ W q vs)(af:Tm a 47 σ)(h2:σ 2= .pointer (some ⟨w0.heap.size,0,none⟩))(h5:σ 5= .pointer (some ⟨w0.heap.size+1,0,none⟩)){Q:Exit->Act->World->Prop}(hQ: ∀a W,bodyPost P fn (λe W=> ∃v,e= .returned v/\Jx c φ0 w0 (.bW [.agg Xc,.list [],.i .i64 q.e]) v W) .ret a W->Q .ret a W): (adm (.region (r 7) #[o 31,o 32,o 33,o 34,o 35,o 36,o 37,o 38] true) .ret).wp P Q a W:=by
 obtain ⟨φt,vb,l1,l2,l3,l4,l5,l6,l7⟩:=hM.sea1;obtain ⟨Iy,p1,p2,p3,p4⟩:=H.tyO;obtain ⟨IR,r1,r2,r3,r4⟩:=H.tyR;obtain ⟨Ie,e1,e2,e3⟩:=H.tye;obtain ⟨zs,T2,b1,b2⟩:=hM.h2;refine wp_seq (D6 (c:=c) (φ:=φt) (ord:=[0,1,2,3,4,5,6,7]) H.Zl H.d7 λlisted lY=> ?_);obtain ⟨W0,Ls⟩: ∃W0,W0=({W with drawn:=W.drawn+1}:World):=⟨_,rfl⟩
 rw [<-Ls];have Qu:W0.heap=W.heap:=by rw [Ls]
 have Sa:Rest W W0:=by rw [Ls];exact ⟨rfl,rfl,rfl⟩
 have ZT:mb φt W0:=by rw [Ls];exact l2
 refine lY.read (v:= .agg Us.toArray) rfl H.ops.Pe (by decide) (by simp [dY,H.ops.Pe.op]) (by simp [dX,H.ops.Pe.op]) (lH H.ops.Pe (by simp)) (by simp [qR,H.ops.Pe.op]) af ZT (λw' _=>HR H.ops.Pe H.blO w') (λa af lY=> ?_);refine lY.read (v:= .pointer (some ⟨w0.heap.size+1,0,none⟩)) rfl H.ops.Pf (by decide) (by simp [dY,H.ops.Pf.op]) (by simp [dX,H.ops.Pf.op]) (lH H.ops.Pf (by simp)) (by simp [qR,H.ops.Pf.op]) af ZT (λw' _=>(az H.ops.Pf w').trans (by show AT (AS (σ 5)) w'=_;rw [h5])) (λa af lY=> ?_);refine lY.read (v:= .pointer (some ⟨w0.heap.size+1,0,none⟩)) rfl H.ops.Pg (by decide) (by simp [dY,H.ops.Pg.op]) (by simp [dX,H.ops.Pg.op]) (lH H.ops.Pg (by simp)) (by simp [qR,H.ops.Pg.op]) af ZT (λw' _=>oW H.ops.Pg rfl w') (λa af lY=> ?_);refine lY.read (v:= .pointer (some ⟨w0.heap.size+1,0+1,none⟩)) rfl H.ops.Qk (by decide) (by simp [dY,H.ops.Qk.op]) (by simp [dX,H.ops.Qk.op]) (lH H.ops.Qk (by simp)) (by simp [qR,H.ops.Qk.op]) af ZT (λw' _=>gm H.ops.Qk H.hT r1 r2 (by rw [r3];rfl) rfl w') (λa af lY=> ?_);refine lY.ZQ (v:= .int .i64 q.e) rfl H.ops.Rn (by decide) (by simp [dY,H.ops.Rn.op]) (by simp [dX,H.ops.Rn.op]) (by simp [jB,kw,H.ops.Rn.op]) H.s35 af ZT (λw' hw=>ew H.ops.Rn (cr H.hT e1 e2 e3 (hw _ _ _ l5))) (λa af lY=> ?_);refine lY.VT (o:=o 36) rfl (λy hy p hp=> ?_) (by simp [dY,H.ops.Sx.op]) (af.aeb rfl H.ops.Sx (Ea H.ops.Sx H.hT p1 (by rw [p4];rfl) (by show σ 2=_;exact h2) rfl Fu (by rw [Qu];exact b1) (by rw [b2];rfl)) ?_)
 ·have hy:y=6\/y=7:=by simpa using hy
  rcases hy with rfl|rfl<;>cases hp
  ·exact D9 H.ops.Ro (by simp)
  ·exact D9 H.ops.Sy (by simp)
 obtain ⟨W1,Jy⟩: ∃W1,W1=W0.setRow w0.heap.size Us.toArray:=⟨_,rfl⟩
 rw [<-Jy];have ul:W1.heap[w0.heap.size]? =some (.cells Us.toArray T2 (0,0)):=by rw [Jy];exact eH _ (by rw [Qu];exact b1)
 obtain ⟨t1,t2⟩:=hM.close (W':=W1) l1 l2 l3 (by rw [Jy,setRow_size,Qu]) (Sa.trans (by rw [Jy];exact .setRow _ _ _)) (λb hb=>by rw [Jy,setRow_other _ _ _ _ hb,Qu]);refine ⟨⟨λoi hg=> ?_,t2⟩,?_⟩
 ·have Pa:oT c oi #[o 31,o 32,o 33,o 34,o 35,o 36,o 37,o 38] 5=(E0 c (o 36)||pI oi (o 36)):=rfl;rw [Pa,Uv H.ops.Sx] at hg;cases hg
 obtain ⟨_,_,_,OC,_⟩:=lY.facts (o:=o 36) rfl;refine OC.read (v:= .slice none 0 0) rfl H.ops.Ro (by decide) (by simp [dY,H.ops.Ro.op]) (by simp [dX,H.ops.Ro.op]) (lH H.ops.Ro (by simp)) (by simp [qR,H.ops.Ro.op]) af t2 (λw' _=>bD H.ops.Ro w') (λa af lY=> ?_);refine lY.read (v:= .int .i64 q.e) rfl H.ops.Sy (by decide) (by simp [dY,H.ops.Sy.op]) H.m38 (lH H.ops.Sy (by simp)) (by simp [qR,H.ops.Sy.op]) af t2 (λw' _=>bD H.ops.Sy w') (λa af lY=> ?_);refine lY.done ?_;refine wp_ret (hQ _ _ ?_);exact Jw H af ⟨T2,ul⟩ rfl (by show σ 2=_;exact h2) (SK t1 t2 (OE.Vd OG) Uw)
theorem ZU (H:Aq P c g k t f fI fX fn r o)(hM:xj c φ0 w0 φ W q vs)(h1: ∀m∈q.os,m.one=true)(af:Tm a 47 σ)(h2:σ 2= .pointer (some ⟨w0.heap.size,0,none⟩))(h5:σ 5= .pointer (some ⟨w0.heap.size+1,0,none⟩))(h6:σ 6= .pointer (some ⟨w0.heap.size+2,0,none⟩)){Q:Exit->Act->World->Prop}(hQ: ∀a W,bodyPost P fn (λe W=> ∃v,e= .returned v/\Jx c φ0 w0 (.bW [.agg q.os,.list q.xs,.i .i64 0]) v W) .ret a W->Q .ret a W): (adm (.region (r 10) #[o 47,o 48,o 49,o 50,o 51,o 52,o 53,o 54] true) .ret).wp P Q a W:=by
 obtain ⟨φt,vb,l1,l2,l3,l4,l5,l6,l7⟩:=hM.sea1;obtain ⟨Iy,p1,p2,p3,p4⟩:=H.tyO;obtain ⟨IR,r1,r2,r3,r4⟩:=H.tyR;obtain ⟨IY,y1,y2,y3⟩:=H.tyY;obtain ⟨zs,T2,b1,b2⟩:=hM.h2;have hos:=(hM.os.mono l1).Vd h1;have hn:=hM.n;refine wp_seq (D6 (c:=c) (φ:=φt) (ord:=[0,1,2,3,4,5,6,7]) H.Zl H.d10 λlisted lY=> ?_);obtain ⟨W0,Ls⟩: ∃W0,W0=({W with drawn:=W.drawn+1}:World):=⟨_,rfl⟩
 rw [<-Ls];have Qu:W0.heap=W.heap:=by rw [Ls]
 have Sa:Rest W W0:=by rw [Ls];exact ⟨rfl,rfl,rfl⟩
 have ZT:mb φt W0:=by rw [Ls];exact l2
 refine lY.ZQ (v:= .agg vs.toArray) rfl H.ops.Zk (by decide) (by simp [dY,H.ops.Zk.op]) (by simp [dX,H.ops.Zk.op]) (by simp [jB,kw,H.ops.Zk.op]) H.s47 af ZT (λw' hw=>ew H.ops.Zk (by show (BY t.tO (σ 6)).run P w'=_;rw [h6];exact jg H.hT p1 p2 (by rw [hn,p4]) (λj v hj=>by rw [aaY];exact hw _ _ _ (by rw [l7];exact hj)))) (λa af lY=> ?_);refine lY.read (v:= .pointer (some ⟨w0.heap.size+1,0,none⟩)) rfl H.ops.Vf (by decide) (by simp [dY,H.ops.Vf.op]) (by simp [dX,H.ops.Vf.op]) (lH H.ops.Vf (by simp)) (by simp [qR,H.ops.Vf.op]) af ZT (λw' _=>(az H.ops.Vf w').trans (by show AT (AS (σ 5)) w'=_;rw [h5])) (λa af lY=> ?_);refine lY.read (v:= .pointer (some ⟨w0.heap.size+1,0,none⟩)) rfl H.ops.Rq (by decide) (by simp [dY,H.ops.Rq.op]) (by simp [dX,H.ops.Rq.op]) (lH H.ops.Rq (by simp)) (by simp [qR,H.ops.Rq.op]) af ZT (λw' _=>oW H.ops.Rq rfl w') (λa af lY=> ?_);refine lY.read (v:= .pointer (some ⟨w0.heap.size+1,0+0,none⟩)) rfl H.ops.Sz (by decide) (by simp [dY,H.ops.Sz.op]) (by simp [dX,H.ops.Sz.op]) (lH H.ops.Sz (by simp)) (by simp [qR,H.ops.Sz.op]) af ZT (λw' _=>gm H.ops.Sz H.hT r1 r2 (by rw [r3];rfl) rfl w') (λa af lY=> ?_);refine lY.ZQ (v:=vb) rfl H.ops.SA (by decide) (by simp [dY,H.ops.SA.op]) (by simp [dX,H.ops.SA.op]) (by simp [jB,kw,H.ops.SA.op]) H.s51 af ZT (λw' hw=>ew H.ops.SA (cr H.hT y1 y2 y3 (hw _ _ _ l4))) (λa af lY=> ?_);refine lY.VT (o:=o 52) rfl (λy hy p hp=> ?_) (by simp [dY,H.ops.Rr.op]) (af.aeb rfl H.ops.Rr (Ea H.ops.Rr H.hT p1 (by rw [p4,hn]) (by show σ 2=_;exact h2) rfl hos.cells (by rw [Qu];exact b1) (by rw [b2,hn])) ?_)
 ·have hy:y=6\/y=7:=by simpa using hy
  rcases hy with rfl|rfl<;>cases hp
  ·exact D9 H.ops.Rs (by simp)
  ·exact D9 H.ops.Ql (by simp)
 obtain ⟨W1,Jy⟩: ∃W1,W1=W0.setRow w0.heap.size vs.toArray:=⟨_,rfl⟩
 rw [<-Jy];have ul:W1.heap[w0.heap.size]? =some (.cells vs.toArray T2 (0,0)):=by rw [Jy];exact eH _ (by rw [Qu];exact b1)
 obtain ⟨t1,t2⟩:=hM.close (W':=W1) l1 l2 l3 (by rw [Jy,setRow_size,Qu]) (Sa.trans (by rw [Jy];exact .setRow _ _ _)) (λb hb=>by rw [Jy,setRow_other _ _ _ _ hb,Qu]);refine ⟨⟨λoi hg=> ?_,t2⟩,?_⟩
 ·have Pa:oT c oi #[o 47,o 48,o 49,o 50,o 51,o 52,o 53,o 54] 5=(E0 c (o 52)||pI oi (o 52)):=rfl;rw [Pa,Uv H.ops.Rr] at hg;cases hg
 obtain ⟨_,_,_,OC,_⟩:=lY.facts (o:=o 52) rfl;refine OC.read (v:=vb) rfl H.ops.Rs (by decide) (by simp [dY,H.ops.Rs.op]) H.m53 (lH H.ops.Rs (by simp)) (by simp [qR,H.ops.Rs.op]) af t2 (λw' _=>bD H.ops.Rs w') (λa af lY=> ?_);refine lY.read (v:= .int .i64 0) rfl H.ops.Ql (by decide) (by simp [dY,H.ops.Ql.op]) (by simp [dX,H.ops.Ql.op]) (lH H.ops.Ql (by simp)) (by simp [qR,H.ops.Ql.op]) af t2 (λw' _=>bD H.ops.Ql w') (λa af lY=> ?_);refine lY.done ?_;refine wp_ret (hQ _ _ ?_);exact Jw H af ⟨T2,ul⟩ hn (by show σ 2=_;exact h2) (SK t1 t2 hos l6)
theorem ZV (H:Aq P c g k t f fI fX fn r o)(hM:xj c φ0 w0 φ W q vs)(af:Tm a 47 σ)(h2:σ 2= .pointer (some ⟨w0.heap.size,0,none⟩)){Q:Exit->Act->World->Prop}(hQ: ∀a W,bodyPost P fn (λe W=> ∃v,e= .returned v/\Jx c φ0 w0 (.bW [.agg Xc,.list [],.i .i64 3]) v W) .ret a W->Q .ret a W): (adm (.region (r 9) #[o 43,o 44,o 45,o 46] false) .ret).wp P Q a W:=by
 obtain ⟨φt,vb,l1,l2,l3,_⟩:=hM.sea1;obtain ⟨Iy,p1,p2,p3,p4⟩:=H.tyO;obtain ⟨zs,T2,b1,b2⟩:=hM.h2;refine wp_seq (wp_region ?_);rw [show sh (#[o 43,o 44,o 45,o 46]:Array Oper).size=[0,1,2,3] from rfl];refine af.step (v:= .agg Us.toArray) rfl H.ops.Zh (by decide) (HR H.ops.Zh H.blO _) (λa af=> ?_);refine af.wG rfl H.ops.Zj (Ea H.ops.Zj H.hT p1 (by rw [p4];rfl) (by show σ 2=_;exact h2) rfl Fu b1 (by rw [b2];rfl)) ?_;obtain ⟨W1,Jy⟩: ∃W1,W1=W.setRow w0.heap.size Us.toArray:=⟨_,rfl⟩
 rw [<-Jy];have ul:W1.heap[w0.heap.size]? =some (.cells Us.toArray T2 (0,0)):=by rw [Jy];exact eH _ b1
 obtain ⟨t1,t2⟩:=hM.close (W':=W1) l1 l2 l3 (by rw [Jy,setRow_size]) (by rw [Jy];exact .setRow _ _ _) (λb hb=>by rw [Jy,setRow_other _ _ _ _ hb]);refine af.step (v:= .slice none 0 0) rfl H.ops.h45 (by decide) (bD H.ops.h45 _) (λa af=> ?_);refine af.step (v:= .int .i64 3) rfl H.ops.h46 (by decide) (bD H.ops.h46 _) (λa af=> ?_);refine wp_ret (hQ _ _ ?_);exact Jw H af ⟨T2,ul⟩ rfl (by show σ 2=_;exact h2) (SK t1 t2 (OE.Vd OG) Uw)
end
end Dn
/-
  The walk, whole. Conditions: none.
-/
namespace Dn
open Go
theorem cj.aoY {c:Ctx} {Z Z':Nat->Prop} {φ φ':Ph} {W W':World}{v:Value}{ty:Nat}{xs:List MV}(h:cj c (bu.plain Z) (mN c.key φ) W v ⟨ty,false,xs⟩)(hz: ∀b,v.ownBlock=some b->Z' b)(hp:fY φ φ')(hf: ∀b o,v.ownBlock=some b->φ' b o=φ b o)(hh: ∀b,v.ownBlock=some b->b<W.heap.size->W'.heap[b]? =W.heap[b]?): cj c (bu.plain Z') (mN c.key φ') W' v ⟨ty,false,xs⟩:=by
 obtain ⟨I,cells,q1,q2,q3,q4,q5⟩:=h.row;refine ⟨I,cells,q1,q2,⟨q3.1,?_⟩,q4.mono hp,λb hb=>⟨hz b hb,λoff u hu=>(q5 b hb).2.1 off u ?_,λhc=>hc.elim⟩⟩
 ·rcases q3.2 with h6|⟨g,cap,cT,r1,r2,r3,r4⟩
  ·exact .inl h6
  ·exact .inr ⟨g,cap,cT,r1,r2,(hh g (by rw [r1];rfl) (aN r3)).trans r3,r4⟩
 ·have hu:φ' b off=some u:=hu;rw [hf b off hb] at hu;exact hu
section
variable {P:Program}{c:Ctx}{g:Nat->List MV->Option MV}{n:CN}{fn:Func}{r:Nat->Nat}{o:Nat->Oper} {φ0 φ1:Ph} {w0 W W':World}{bc br bd bv:Nat} {s s':CS} {v v' l:Int}{a:Act} {σ:Nat->Value}{Q:Exit->Act->World->Prop}
def aiY (c:Ctx)(n:CN) (φ0:Ph)(w0:World)(s:CS)(x:Value)(W:World):Prop:= ∃φ',Trans (λb=>w0.heap.size<=b) φ0 w0 φ' W/\mb φ' W/\cV c.key φ' x (.agg s.ls)
theorem ZW (H:pY P c g n fn r o)(hI:BI c n φ0 w0 φ1 bc bv br s v W)(af:Tm a 52 σ)(hF:Fv σ bc br bd bv){id d:Nat}{oA oB:Oper}(hA:ai oA d (.load n.tS (.tmp 1)))(hB:fN oB (.store n.tS (.tmp 2) (.tmp d)))(hd:d<52)(hd2:2<d)(hQ: ∀a W,bodyPost P fn (λe W=> ∃x,e= .returned x/\aiY c n φ0 w0 s x W) .ret a W->Q .ret a W): (adm (.region id #[oA,oB] false) .ret).wp P Q a W:=by
 obtain ⟨Z,φ,h⟩:=hI;obtain ⟨u,hu⟩:=h.cell.six;obtain ⟨φt,k1,k2,k3,k4,k5⟩:=hu.still h.iK;obtain ⟨T,hh⟩:=hu.heap;obtain ⟨IS,s1,s2,s3,s4⟩:=H.tyS;obtain ⟨kR,hc⟩:=aV s1;obtain ⟨arr,T2,Cq,Mo⟩:=h.hr;have hrS:W.rangeAt bc 0 (u.vs s):=wOf hh (by simp);have hlen:(u.vs s).length=IS.size:=by rw [s4];rfl
 refine wp_seq (wp_region ?_);rw [show sh (#[oA,oB]:Array Oper).size=[0,1] from rfl];refine af.step (v:= .agg (u.vs s).toArray) rfl hA hd (ew hA (by show (BY n.tS (σ 1)).run P W=_;rw [hF.h1];exact jg H.hT s1 s2 hlen hrS)) (λa af=> ?_);have h2:oV σ d (.agg (u.vs s).toArray) 2= .pointer (some ⟨br,0,none⟩):=by
  have:aa8 2 d=false:=by
   cases hq:aa8 2 d with
   |false=>rfl
   |true=>have:=aaX hq;omega
  show (bif aa8 2 d then _ else σ 2)=_;rw [this];exact hF.h2
 have hdd:oV σ d (.agg (u.vs s).toArray) d= .agg (u.vs s).toArray:=by show (bif aa8 d d then _ else σ d)=_;rw [Nat.beq_refl];rfl
 have Uk:(adr (u.vs s).toArray).cells.toList=u.vs s:=by simp [abB]
 refine af.wG rfl hB (xN (v:= .agg (u.vs s).toArray) (g:=br) (off:=0) hB (H.hT _ _ kR) hc h2 hdd (by rw [Uk];exact hlen) (by rw [Uk];exact k4.cells) Cq (by rw [s4,Mo];exact OF _)) ?_;rw [Uk];obtain ⟨W2,Cy⟩: ∃W2,W2=W.setRow br (arr.toList.take 0++u.vs s++arr.toList.drop (0+IS.size)).toArray:=⟨_,rfl⟩
 rw [<-Cy];have sW:W2.heap[br]? =some (.cells (u.vs s).toArray T2 (0,0)):=by
  rw [Cy,eH _ Cq];congr 3;have:arr.toList.drop (0+IS.size)=[]:=by rw [aaY,s4,aaT];rw [aaS,Mo];exact OF _
  rw [this];simp
 have Ip: ∀o,φt br o=none:=λo=>by rw [k3 br o h.zr];exact h.fr o
 have SB: ∀b,b≠br->W2.heap[b]? =W.heap[b]? :=λb hb=>by rw [Cy];exact setRow_other _ _ _ _ hb
 refine wp_ret (hQ _ _ ?_);refine ⟨af.defers,.agg (u.vs s).toArray,?_,_,rfl,φt,⟨h.tr.ph.trans k1,λb hb hl=> ?_,λb o hb=> ?_,by rw [Cy,setRow_size];exact h.tr.size,h.tr.rest.trans (by rw [Cy];exact .setRow _ _ _)⟩,?_,s9 k4⟩
 ·have ZS:(loadVar n.tS ⟨br,0,none⟩).run P W2= .ok (.agg (u.vs s).toArray) W2:=by have:=jg (P:=P) (w:=W2) (g:=br) (off:=0) H.hT s1 s2 hlen (wOf sW (by simp));simpa [BY,adX] using this
  have Ld:a.tmps.getD 2 undef= .pointer (some ⟨br,0,none⟩):=(af.get 2).trans h2;have amW:a.tmps[2]?.getD undef= .pointer (some ⟨br,0,none⟩):=by simpa using Ld
  simp [results,H.res,amW,ZS,asAddr]
 ·rw [SB b (λe=>hb (by rw [e];exact h.nr))];exact h.tr.heap b hb hl
 ·rw [k3 b o (λhz=>hb (h.sub b hz))];exact h.tr.free b o hb
 ·intro b o x hx;refine sI (k2 b o x hx) λhl=>SB b λe=> ?_;rw [e,Ip] at hx;cases hx
theorem Ux (H:pY P c g n fn r o)(nM:0<n.sz)(hI:BI c n φ0 w0 φ1 bc bv br s 0 W)(Up:φ1 bd 0=some (.pointer (some ⟨bc,0,none⟩)))(af:Tm a 52 σ)(hF:Fv σ bc br bd bv){bs:List Bool}(hb:Lt s.bl=some bs)(h:(Dn.bd (rO (ZH g n.k s) bs 0 0) λv=>Dn.bd (Loop (D8 g n.k s) v) λv=>if 100000<v then some s else Dn.bd (rO (ZI g n.k v) bs 0 s) λs=>Loop (Uo g n.k v) ((0:Int),s))=some s'): (adm (.region (r 4) #[o 13,o 14,o 15] false) (.seq (.block 0 (.loop (Jr r o))) (.seq (.seq (.region (r 7) #[o 26,o 27] false) (.cond (.tmp 25) (.seq (.region (r 8) #[o 28,o 29] false) .ret) .skip)) (.seq (.region (r 9) #[o 30,o 31,o 32] false) (.seq (.seq (.region (r 10) #[o 33] false) (.block 2 (.loop (Qw r o)))) (.seq (.region (r 16) #[o 58,o 59] false) .ret)))))).wp P (bodyPost P fn λe W=> ∃x,e= .returned x/\aiY c n φ0 w0 s' x W) a W:=by
 obtain ⟨v1,RS,h⟩:=kY h;obtain ⟨v2,KR,h⟩:=kY h;obtain ⟨IP,p1,p2,p3⟩:=H.tyP;obtain ⟨Ii,i1,i2,i3⟩:=H.tyi;have hpd: ∀{s v W},BI c n φ0 w0 φ1 bc bv br s v W->W.cell? ⟨bd,0,none⟩=some (.pointer (some ⟨bc,0,none⟩)):=λ⟨Z3,φ3,h3⟩=>h3.iK _ _ _ (h3.base _ _ _ Up);refine wp_seq (wp_region ?_);rw [show sh (#[o 13,o 14,o 15]:Array Oper).size=[0,1,2] from rfl];refine af.step (v:= .pointer (some ⟨bc,0,none⟩)) rfl H.ops.Dp (by decide) (ew H.ops.Dp (by show (BY n.tP (σ 3)).run P W=_;rw [hF.h3];exact cr H.hT p1 p2 p3 (hpd hI))) (λa af=> ?_);refine af.step (v:= .func (.func n.f1) #[] #[.pointer (some ⟨bv,0,none⟩),.pointer (some ⟨bc,0,none⟩)]) rfl H.ops.Dq (by decide) ((SF H.ops.Dq _).trans (by show AT (AS (.func (.func n.f1) #[] #[σ 4,σ 1])) W=_;rw [hF.h4,hF.h1])) (λa af=> ?_);refine af.call rfl H.ops.Dr (by decide) (uX H.ops.Dr rfl rfl rfl _) (VX H hI hb RS) ?_;rintro x1 W1 a1 HI af;refine wp_seq (VW H KR HI af ⟨hF.h1,hF.h2,hF.h3,hF.h4⟩ ?_);intro a2 W2 σ2 zY DY Fe;refine wp_seq (wp_seq (wp_region ?_));rw [show sh (#[o 26,o 27]:Array Oper).size=[0,1] from rfl];have hiv:W2.cell? ⟨bv,0,none⟩=some (.int .i64 v2):=by obtain ⟨Z3,φ3,h3⟩:=zY;exact h3.hv.cell
 refine DY.step (v:= .int .i64 v2) rfl H.ops.Ol (by decide) (ew H.ops.Ol (by show (BY n.ti (σ2 4)).run P W2=_;rw [Fe.h4];exact cr H.hT i1 i2 i3 hiv)) (λa af=> ?_);refine af.step (v:= .bool (decide ((100000:Int)<v2))) rfl H.ops.Qj (by decide) (Ji H.ops.Qj rfl rfl _) (λa3 He=> ?_);have hF3:Fv _ bc br bd bv:=⟨Fe.h1,Fe.h2,Fe.h3,Fe.h4⟩
 by_cases SD:100000<v2
 ·rw [if_pos SD] at h;simp only [bB] at h;subst h;refine He.cond (b:=true) (by show IN (decide ((100000:Int)<v2))=_;rw [decide_eq_true SD]) ?_;simp only [if_true];exact ZW H zY He ⟨Fe.h1,Fe.h2,Fe.h3,Fe.h4⟩ H.ops.Rl H.ops.Rm (by decide) (by decide) λa W hx=>hx
 ·rw [if_neg SD] at h;obtain ⟨s1,yT,h⟩:=kY h;refine He.cond (b:=false) (by show IN (decide ((100000:Int)<v2))=_;rw [decide_eq_false SD]) ?_;simp only [AI,if_false];refine wp_skip ?_;refine wp_seq (wp_region ?_);rw [show sh (#[o 30,o 31,o 32]:Array Oper).size=[0,1,2] from rfl];refine He.step (v:= .pointer (some ⟨bc,0,none⟩)) rfl H.ops.Om (by decide) (ew H.ops.Om (by show (BY n.tP (σ2 3)).run P W2=_;rw [Fe.h3];exact cr H.hT p1 p2 p3 (hpd zY))) (λa af=> ?_);refine af.step (v:= .func (.func n.f2) #[] #[.pointer (some ⟨bd,0,none⟩),.pointer (some ⟨bv,0,none⟩)]) rfl H.ops.Pe (by decide) ((SF H.ops.Pe _).trans (by show AT (AS (.func (.func n.f2) #[] #[σ2 3,σ2 4])) W2=_;rw [Fe.h3,Fe.h4])) (λa af=> ?_);refine af.call rfl H.ops.Pf (by decide) (uX H.ops.Pf rfl rfl rfl _) (SJ H zY Up hb yT) ?_;rintro x4 W4 a4 hI4 acg;refine wp_seq (wp_seq (wp_region ?_));rw [show sh (#[o 33]:Array Oper).size=[0] from rfl];refine acg.step (v:= .int .i64 0) rfl H.ops.Pg (by decide) (bD H.ops.Pg _) (λa af=> ?_);obtain ⟨m,hm⟩: ∃m,iter (Uo g n.k v2) m ((0:Int),s1)=some s':=by
   unfold Loop at h;split at h
   ·rename_i hex;have:=abv hex;simp only [bB] at h;rw [h] at this;exact this
   ·cases h
  refine wp_block (wp_loop_rounds m (Qx H nM Up ?_ m ((0:Int),s1) W4 a _ hm hI4 af ⟨Fe.h1,Fe.h2,Fe.h3,Fe.h4⟩ rfl));intro a5 W5 σ5 hI5 amX hF5;exact ZW H hI5 amX hF5 H.ops.h58 H.ops.h59 (by decide) (by decide) λa W hx=>hx
theorem tm1 (v0:Value)(k:Nat):Tm {tmps:= #[v0]++abS k undef,defers:=[]} (k+1) (oV (λ_=>undef) 0 v0):=by
 refine ⟨rfl,by simp [afd],λq=> ?_⟩;by_cases h0:q=0
 ·subst h0;show (#[v0]++abS k undef).getD 0 undef=v0;simp [adE]
 have e:aa8 q 0=false:=by
  cases hq:aa8 q 0 with
  |false=>rfl
  |true=>exact absurd (aaX hq) h0
 simp only [oV,e,cond_false];have h3:1<=q:=by omega
 simp [adE,Array.getElem?_replicate,show¬q<1 by omega];by_cases hk:q-1<k<;>simp [hk]
theorem aiZ {φ:Ph}{W:World}(hi:mb φ W){b:Nat}(hb:W.heap.size<=b)(o:Nat):φ b o=none:=by
 cases hq:φ b o with
 |none=>rfl
 |some u=>exact absurd (aar W _ (hi _ _ _ hq)) (Nat.not_lt.2 hb)
end
end Dn
/-
  Parts that are taken off bytes, into a variable of eight parts: all of it. Conditions: none.
-/
namespace Dn
open Go
section
variable {P:Program}{c:Ctx}{g:Nat->List MV->Option MV}{k:TkF}{t:Xd}{f fI fX:Nat}{fn:Func}{r:Nat->Nat}{o:Nat->Oper} {φ0 φ1 φ φt:Ph} {w0 W W':World} {q q':Qy}{vs:List Value}{a:Act} {σ:Nat->Value}{res:MV}
structure TkV (w0:World) (σ:Nat->Value):Prop where
 h2:σ 2= .pointer (some ⟨w0.heap.size,0,none⟩)
 h5:σ 5= .pointer (some ⟨w0.heap.size+1,0,none⟩)
 h6:σ 6= .pointer (some ⟨w0.heap.size+2,0,none⟩)
theorem V0 (H:Aq P c g k t f fI fX fn r o)(hM:xj c φ0 w0 φ W q vs)(h1: ∀m∈q.os,m.one=true)(af:Tm a 47 σ)(hV:TkV w0 σ)(hm:(if q.e=0 then (match g k.may [.agg q.os] with
  |some (.b true)=>some (.bW [.agg q.os,.list q.xs,.i .i64 0])
  |some (.b false)=>some (.bW [.agg Xc,.list [],.i .i64 3])
  |_=>none) else some (.bW [.agg Xc,.list [],.i .i64 q.e]))=some res):
 (adm (.block 0 (.seq (.region (r 6) #[o 25,o 26,o 27,o 28,o 29,o 30] false) (.cond (.tmp 26) (.seq (.region (r 7) #[o 31,o 32,o 33,o 34,o 35,o 36,o 37,o 38] true) .ret) (.seq (.region (r 8) #[o 39,o 40,o 41,o 42] false) (.cond (.tmp 37) (.seq (.region (r 9) #[o 43,o 44,o 45,o 46] false) .ret) .skip))))) (.seq (.region (r 10) #[o 47,o 48,o 49,o 50,o 51,o 52,o 53,o 54] true) .ret)).wp P (bodyPost P fn λe W=> ∃v,e= .returned v/\Jx c φ0 w0 res v W) a W:=by
 obtain ⟨Iy,p1,p2,p3,p4⟩:=H.tyO;obtain ⟨IR,r1,r2,r3,r4⟩:=H.tyR;obtain ⟨Ie,e1,e2,e3⟩:=H.tye;refine wp_seq (wp_block ?_);refine wp_seq (wp_region ?_);rw [show sh (#[o 25,o 26,o 27,o 28,o 29,o 30]:Array Oper).size=[0,1,2,3,4,5] from rfl];refine af.step (v:= .pointer (some ⟨w0.heap.size+1,0,none⟩)) rfl H.ops.KY (by decide) ((az H.ops.KY _).trans (by show AT (AS (σ 5)) W=_;rw [hV.h5])) (λa af=> ?_);refine af.step rfl H.ops.Ol (by decide) (oW H.ops.Ol rfl _) (λa af=> ?_);refine af.step rfl H.ops.Qj (by decide) (gm H.ops.Qj H.hT r1 r2 (q:=1) (by rw [r3];rfl) rfl _) (λa af=> ?_);refine af.step (v:= .int .i64 q.e) rfl H.ops.Rl (by decide) (ew H.ops.Rl (cr H.hT e1 e2 e3 (by simpa using hM.lde))) (λa af=> ?_);refine af.step (v:= .bool (!decide (q.e=0))) rfl H.ops.Rm (by decide) (acD H.ops.Rm rfl rfl _) (λa af=> ?_);refine af.step (v:= .bool (!decide (q.e=0))) rfl H.ops.Om (by decide) (bD H.ops.Om _) (λa af=> ?_);by_cases he:q.e=0;rotate_left
 ·rw [if_neg he,bB] at hm;subst hm;refine af.cond (b:=true) (by show IN (!decide (q.e=0))=_;rw [decide_eq_false he];rfl) ?_;simp only [if_true];exact VZ H hM af hV.h2 hV.h5 (λa W h=>h)
 rw [if_pos he] at hm;refine af.cond (b:=false) (by show IN (!decide (q.e=0))=_;rw [decide_eq_true he];rfl) ?_;simp only [AI,if_false];refine wp_seq (wp_region ?_);rw [show sh (#[o 39,o 40,o 41,o 42]:Array Oper).size=[0,1,2,3] from rfl];obtain ⟨To,c1⟩:=hM.ho;have hos:=hM.os.Vd h1;refine af.step (v:= .agg vs.toArray) rfl H.ops.Zd (by decide) (ew H.ops.Zd (by show (BY t.tO (σ 6)).run P W=_;rw [hV.h6];exact jg H.hT p1 p2 (by rw [hM.n,p4]) (wOf c1 (by simp)))) (λa af=> ?_);have amY: ∃b,g k.may [.agg q.os]=some (.b b):=by
  cases hg:g k.may [.agg q.os] with
  |none=>rw [hg] at hm;cases hm
  |some m=>rw [hg] at hm;cases m<;>first|exact ⟨_,rfl⟩|(simp at hm)
 obtain ⟨b,hb⟩:=amY;have Dm:cm P k.may #[.agg vs.toArray] W λx W'=> ∃φ',Trans (λb=>W.heap.size<=b) φ W φ' W'/\mb φ' W'/\gK c (λb=>W.heap.size<=b) φ' W' (c.key k.may) x (.b b):=sJ (vs:=[.agg vs.toArray]) (by rw [H.key];exact H.gv.2.2) (H.snd _ _ _ hb) rfl ⟨_,_,rfl,s9 hos,rfl⟩ hM.iK;refine af.call rfl H.ops.Ze (by decide) (Un H.ops.Ze rfl rfl _) Dm ?_;rintro x1 W1 a ⟨φ2,t1,m1,mP⟩ af;have Dl:x1= .bool b:=DQ mP;subst Dl;have hM1:=hM.grow t1 m1;refine af.step (v:= .bool (!b)) rfl H.ops.Zf (by decide) (DU H.ops.Zf rfl _) (λa af=> ?_);refine af.step (v:= .bool (!b)) rfl H.ops.Zg (by decide) (bD H.ops.Zg _) (λa af=> ?_);rw [hb] at hm;cases b with
 |false=>simp only [bB] at hm;subst hm;refine af.cond (b:=true) rfl ?_;simp only [if_true];exact ZV H hM1 af hV.h2 (λa W h=>h)
 |true=>simp only [bB] at hm;subst hm;refine af.cond (b:=false) rfl ?_;simp only [AI,if_false];refine wp_skip ?_;exact ZU H hM1 h1 af hV.h2 hV.h5 hV.h6 (λa W h=>h)
theorem V1 (H:Aq P c g k t f fI fX fn r o){xs:List MV}(hm:QA g k xs=some res):fh P c f [.list xs] res:=by
 unfold QA at hm;cases hq1:Ft g k [0,1,2,5,6,7] ⟨xs,0,Xc⟩ with
 |none=>rw [hq1] at hm;cases hm
 |some qa=>
 rw [hq1] at hm;dsimp only at hm;cases hq2:Qz g k 3 100 qa with
 |none=>rw [hq2] at hm;cases hm
 |some qb=>
 rw [hq2] at hm;dsimp only at hm;cases hq3:Qz g k 4 1000 qb with
 |none=>rw [hq3] at hm;cases hm
 |some qc=>
 rw [hq3] at hm;dsimp only at hm;intro φ0 w0 Z0 vs VS dy iu;simp only [dz,H.key,H.gvF,AI,if_false] at dy;obtain ⟨x,rest,rfl,hx,uV⟩:=dy;have uV:rest=[]:=uV;subst uV;obtain ⟨hxr,hxc,Dl⟩:=aea hx;obtain ⟨ad,cp,hxs,_⟩:=uY hxr;refine (jU (R:=Jx c φ0 w0 res) H.pos H.name H.body (calls_of_wp H.pos H.body ?_)).imp ?_;rotate_left
 ·rintro v W ⟨φ',t1,t2,ms,arr,rfl,rfl,h3⟩;exact ⟨φ',t1.wD VS,t2,NY.args h3⟩
 rw [H.tmps];obtain ⟨Iy,p1,p2,p3,p4⟩:=H.tyO;obtain ⟨IL,pl1,pl2⟩:=H.tyL;obtain ⟨II,pi1,pi2,pi3⟩:=H.tyI;obtain ⟨hOi,hOc⟩:=aV p1;obtain ⟨hIi,Rg⟩:=aV pi1;obtain ⟨iO,zO,hiO,hsO,_,hzO,ai0⟩:=iA (H.hT _ Iy hOi) hOc;have key: ∀a:Act,Tm a 47 (oV (λ_=>undef) 0 x)->(Jv r o).wp P (bodyPost P fn λe W=> ∃v,e= .returned v/\Jx c φ0 w0 res v W) a w0:=by
  intro a af;unfold Jv;refine wp_seq (wp_region ?_);rw [show sh (#[o 0,o 1,o 2]:Array Oper).size=[0,1,2] from rfl];refine af.step rfl H.ops.h0 (by decide) (HO H.ops.h0 hiO hzO _) (λa af=> ?_);obtain ⟨W1,Jy⟩: ∃W1,W1=w0.alloc (.cells zO.cells t.tO):=⟨_,rfl⟩
  rw [<-Jy];have s1:W1.heap.size=w0.heap.size+1:=by rw [Jy];simp
  have l1:W1.heap[w0.heap.size]? =some (.cells zO.cells t.tO (0,0)):=by rw [Jy];exact gj w0 _
  have g1: ∀b,b<w0.heap.size->W1.heap[b]? =w0.heap[b]? :=λb hb=>by rw [Jy];exact (cL.alloc w0 _ _).pF b hb
  have k1:Rest w0 W1:=by rw [Jy];exact .alloc _ _ _
  refine af.step (v:= .slice none 0 0) rfl H.ops.h1 (by decide) (bD H.ops.h1 _) (λa af=> ?_);refine af.step (v:= .int .i64 0) rfl H.ops.h2 (by decide) (bD H.ops.h2 _) (λa af=> ?_);refine wp_seq (wp_region ?_);rw [show sh (#[o 3,o 4,o 5,o 6]:Array Oper).size=[0,1,2,3] from rfl];refine af.step (v:=x) rfl H.ops.h3 (by decide) (az H.ops.h3 _) (λa af=> ?_);refine af.step (v:= .agg #[x,.int .i64 0]) rfl H.ops.h4 (by decide) (HR H.ops.h4 (by rw [hxs];exact H.blR _ _ _) _) (λa af=> ?_);refine af.step (v:= .pointer (some ⟨w0.heap.size+1,0,none⟩)) rfl H.ops.h5 (by decide) (by have:=ack (P:=P) (e:=ev (oV (oV (oV (oV (oV (oV (λ_=>undef) 0 x) 2 (.pointer (some ⟨w0.heap.size,0,none⟩))) 3 (.slice none 0 0)) 4 (.int .i64 0)) 7 x) 8 (.agg #[x,.int .i64 0]))) H.ops.h5 W1;rw [s1] at this;exact this) (λa af=> ?_);obtain ⟨W2,Cy⟩: ∃W2,W2=W1.alloc (.cells [x,.int .i64 0].toArray t.tR):=⟨_,rfl⟩
  have Yk:(adr #[x,.int .i64 0]).cells=[x,.int .i64 0].toArray:=rfl;show wpOps P _ _ _ a (W1.alloc (.cells (adr #[x,.int .i64 0]).cells t.tR));rw [Yk,<-Cy];have s2:W2.heap.size=w0.heap.size+2:=by rw [Cy];simp [s1]
  have l2:W2.heap[w0.heap.size+1]? =some (.cells [x,.int .i64 0].toArray t.tR (0,0)):=by rw [Cy,<-s1];exact gj W1 _
  have g2: ∀b,b<w0.heap.size+1->W2.heap[b]? =W1.heap[b]? :=λb hb=>by rw [Cy];exact (cL.alloc W1 _ _).pF b (by omega)
  have k2:Rest W1 W2:=by rw [Cy];exact .alloc _ _ _
  refine af.step (v:= .pointer (some ⟨w0.heap.size+1,0,none⟩)) rfl H.ops.h6 (by decide) (bD H.ops.h6 _) (λa af=> ?_);refine wp_seq (wp_region ?_);rw [show sh (#[o 7,o 8,o 9]:Array Oper).size=[0,1,2] from rfl];refine af.step (v:= .agg Us.toArray) rfl H.ops.h7 (by decide) (HR H.ops.h7 H.blO _) (λa af=> ?_);refine af.step (v:= .pointer (some ⟨w0.heap.size+2,0,none⟩)) rfl H.ops.h8 (by decide) (by rw [<-s2];exact HO H.ops.h8 hiO hzO _) (λa af=> ?_);obtain ⟨W3,Uj⟩: ∃W3,W3=W2.alloc (.cells zO.cells t.tO):=⟨_,rfl⟩
  rw [<-Uj];have s3:W3.heap.size=w0.heap.size+3:=by rw [Uj];simp [s2]
  have l3:W3.heap[w0.heap.size+2]? =some (.cells zO.cells t.tO (0,0)):=by rw [Uj,<-s2];exact gj W2 _
  have g3: ∀b,b<w0.heap.size+2->W3.heap[b]? =W2.heap[b]? :=λb hb=>by rw [Uj];exact (cL.alloc W2 _ _).pF b (by omega)
  have k3:Rest W2 W3:=by rw [Uj];exact .alloc _ _ _
  refine af.wG rfl H.ops.h9 (Ea H.ops.h9 H.hT p1 (by rw [p4];rfl) rfl rfl Fu l3 (by rw [ai0,p4];rfl)) ?_;obtain ⟨W4,ZB⟩: ∃W4,W4=W3.setRow (w0.heap.size+2) Us.toArray:=⟨_,rfl⟩
  rw [<-ZB];have s4:W4.heap.size=w0.heap.size+3:=by rw [ZB,setRow_size,s3]
  have l4:W4.heap[w0.heap.size+2]? =some (.cells Us.toArray t.tO (0,0)):=by rw [ZB];exact eH _ l3
  have g4: ∀b,b≠w0.heap.size+2->W4.heap[b]? =W3.heap[b]? :=λb hb=>by rw [ZB];exact setRow_other _ _ _ _ hb
  have k4:Rest W3 W4:=by rw [ZB];exact .setRow _ _ _
  refine wp_seq (wp_region ?_);rw [show sh (#[o 10,o 11,o 12,o 13,o 14,o 15,o 16,o 17,o 18]:Array Oper).size=[0,1,2,3,4,5,6,7,8] from rfl];refine af.step (v:= .pointer (some ⟨w0.heap.size+1,0,none⟩)) rfl H.ops.wg (by decide) (az H.ops.wg _) (λa af=> ?_);refine af.step (v:= .pointer (some ⟨w0.heap.size+2,0,none⟩)) rfl H.ops.zt (by decide) (gm (off:=0) (q:=0) H.ops.zt H.hT p1 p2 (by rw [p3];rfl) rfl _) (λa af=> ?_);refine af.step (v:= .pointer (some ⟨w0.heap.size+2,1,none⟩)) rfl H.ops.ER (by decide) (gm (off:=0) (q:=1) H.ops.ER H.hT p1 p2 (by rw [p3];rfl) rfl _) (λa af=> ?_);refine af.step (v:= .pointer (some ⟨w0.heap.size+2,2,none⟩)) rfl H.ops.Dp (by decide) (gm (off:=0) (q:=2) H.ops.Dp H.hT p1 p2 (by rw [p3];rfl) rfl _) (λa af=> ?_);refine af.step (v:= .pointer (some ⟨w0.heap.size+2,5,none⟩)) rfl H.ops.Dq (by decide) (gm (off:=0) (q:=5) H.ops.Dq H.hT p1 p2 (by rw [p3];rfl) rfl _) (λa af=> ?_);refine af.step (v:= .pointer (some ⟨w0.heap.size+2,6,none⟩)) rfl H.ops.Dr (by decide) (gm (off:=0) (q:=6) H.ops.Dr H.hT p1 p2 (by rw [p3];rfl) rfl _) (λa af=> ?_);refine af.step (v:= .pointer (some ⟨w0.heap.size+2,7,none⟩)) rfl H.ops.Bl (by decide) (gm (off:=0) (q:=7) H.ops.Bl H.hT p1 p2 (by rw [p3];rfl) rfl _) (λa af=> ?_);obtain ⟨ps,Ab⟩: ∃ps:List Value,ps=[0,1,2,5,6,7].map λj=>No (some ⟨w0.heap.size+2,j,none⟩):=⟨_,rfl⟩
  obtain ⟨W5,hW5⟩: ∃W5,W5=W4.alloc (.cells ps.toArray t.tI):=⟨_,rfl⟩
  refine af.step (v:= .slice (some ⟨w0.heap.size+3,0,none⟩) 6 6) (w':=W5) rfl H.ops.DX (by decide) ?_ (λa af=> ?_)
  ·have h6:ps.length=6:=by rw [Ab];rfl
   have:=NX (P:=P) (c:=c) (w:=W4) (t:=t.tL) (I:=IL) (E:=II) (vs:=ps) (parts:= #[(0,No (some ⟨w0.heap.size+2,0,none⟩)),(1,No (some ⟨w0.heap.size+2,1,none⟩)),(2,No (some ⟨w0.heap.size+2,2,none⟩)),(3,No (some ⟨w0.heap.size+2,5,none⟩)),(4,No (some ⟨w0.heap.size+2,6,none⟩)),(5,No (some ⟨w0.heap.size+2,7,none⟩))]) (by rw [pl2];exact H.acy) (by rw [pl2];exact hIi) Rg (by omega) H.hT (by rw [h6,pi3];decide) (by rw [Ab];intro v hv;simp at hv;rcases hv with rfl|rfl|rfl|rfl|rfl|rfl<;>rw [pi3]<;>rfl) (by rw [Ab];rfl);have hfl:(ps.flatMap λv=>v.cells.toList)=ps:=by rw [Ab];rfl
   rw [h6,hfl,s4,pl2,<-hW5] at this;simp [execOp,H.ops.DX.op];rw [show (ev _:Operand->Value) (.tmp 12)=No (some ⟨w0.heap.size+2,0,none⟩) from rfl,show (ev _:Operand->Value) (.tmp 13)=No (some ⟨w0.heap.size+2,1,none⟩) from rfl,show (ev _:Operand->Value) (.tmp 14)=No (some ⟨w0.heap.size+2,2,none⟩) from rfl,show (ev _:Operand->Value) (.tmp 15)=No (some ⟨w0.heap.size+2,5,none⟩) from rfl,show (ev _:Operand->Value) (.tmp 16)=No (some ⟨w0.heap.size+2,6,none⟩) from rfl,show (ev _:Operand->Value) (.tmp 17)=No (some ⟨w0.heap.size+2,7,none⟩) from rfl,this];rfl
  have s5:W5.heap.size=w0.heap.size+4:=by rw [hW5];simp [s4]
  have l5:W5.heap[w0.heap.size+3]? =some (.cells ps.toArray t.tI (0,0)):=by rw [hW5,<-s4];exact gj W4 _
  have g5: ∀b,b<w0.heap.size+3->W5.heap[b]? =W4.heap[b]? :=λb hb=>by rw [hW5];exact (cL.alloc W4 _ _).pF b (by omega)
  have k5:Rest W4 W5:=by rw [hW5];exact .alloc _ _ _
  have hold: ∀b,b<w0.heap.size->W5.heap[b]? =w0.heap[b]? :=λb hb=>by rw [g5 b (by omega),g4 b (by omega),g3 b (by omega),g2 b (by omega),g1 b hb]
  have TY: ∀b o,w0.heap.size<=b->φ0 b o=none:=λb o hb=>aiZ iu hb o;have am0:mb φ0 W5:=λb o u hu=>sI (iu b o u hu) λhl=>hold b hl;have hle:=Fq (vs:=ps) λo=>TY (w0.heap.size+3) o (by omega);have hM:xj c φ0 w0 (HQ φ0 (w0.heap.size+3) ps) W5 ⟨xs,0,Xc⟩ Us:=by refine ⟨D7 am0 l5,⟨hle,λb hb hl=>hold b hl,λb o hb=>by unfold HQ;rw [if_neg (by omega)],by omega,(((k1.trans k2).trans k3).trans k4).trans k5⟩,⟨zO.cells,t.tO,by rw [g5 _ (by omega),g4 _ (by omega),g3 _ (by omega),g2 _ (by omega)];exact l1,by rw [ai0,p4]⟩,⟨x,t.tR,by rw [g5 _ (by omega),g4 _ (by omega),g3 _ (by omega)];exact l2,hxr.mono hle⟩,⟨t.tO,by rw [g5 _ (by omega)];exact l4⟩,OE,rfl,λj o hj=> ?_⟩;unfold HQ;rw [if_neg (by omega)];exact TY _ o (by omega)
  obtain ⟨BJ,r1,o1,F1⟩:=H.ints;obtain ⟨M3,r2,o2,F2⟩:=H.text;have uR:=acB (ba:=w0.heap.size+3) (φ1:=HQ φ0 (w0.heap.size+3) ps) H.toacx F1 (jF:=[0,1,2,5,6,7]) (by decide) (by decide) (λj hj=>by rw [Ab];unfold HQ;rw [if_pos rfl];simp only [acw,adl hj,aeB]) (.refl _) hM hq1;refine af.call rfl H.ops.Fl (by decide) (uX H.ops.Fl rfl rfl rfl _) uR ?_;rintro y1 W6 a ⟨φ6,vs6,_,hM6⟩ af;have am1:=ZR OG hq1;refine wp_seq (wp_region ?_);rw [show sh (#[o 19,o 20,o 21]:Array Oper).size=[0,1,2] from rfl];refine af.step (v:= .pointer (some ⟨w0.heap.size+1,0,none⟩)) rfl H.ops.HL (by decide) (az H.ops.HL _) (λa af=> ?_);refine af.step (v:= .pointer (some ⟨w0.heap.size+2,3,none⟩)) rfl H.ops.Lr (by decide) (gm (off:=0) (q:=3) H.ops.Lr H.hT p1 p2 (by rw [p3];rfl) rfl _) (λa af=> ?_);refine af.call rfl H.ops.Fm (by decide) (HP H.ops.Fm rfl rfl rfl rfl _) (Ur H.toacx F2 (j:=3) (by decide) (.refl _) hM6 hq2) ?_;rintro y2 W7 a ⟨φ7,vs7,_,hM7⟩ af;have am2:=Uu am1 hq2;refine wp_seq (wp_region ?_);rw [show sh (#[o 22,o 23,o 24]:Array Oper).size=[0,1,2] from rfl];refine af.step (v:= .pointer (some ⟨w0.heap.size+1,0,none⟩)) rfl H.ops.Fo (by decide) (az H.ops.Fo _) (λa af=> ?_);refine af.step (v:= .pointer (some ⟨w0.heap.size+2,4,none⟩)) rfl H.ops.KW (by decide) (gm (off:=0) (q:=4) H.ops.KW H.hT p1 p2 (by rw [p3];rfl) rfl _) (λa af=> ?_);refine af.call rfl H.ops.KX (by decide) (HP H.ops.KX rfl rfl rfl rfl _) (Ur H.toacx F2 (j:=4) (by decide) (.refl _) hM7 hq3) ?_;rintro y3 W8 a ⟨φ8,vs8,_,hM8⟩ af;exact V0 H hM8 (Uu am2 hq3) af ⟨rfl,rfl,rfl⟩ hm
 exact key _ (tm1 _ 46)
def Uy (g:Nat->List MV->Option MV)(k:TkF):List MV->Option MV
 |[.list xs]=>QA g k xs
 |_=>none
theorem acF (H:Aq P c g k t f fI fX fn r o){ms:List MV}(hm:Uy g k ms=some res):fh P c f ms res:=by
 unfold Uy at hm;split at hm
 ·exact V1 H hm
 ·cases hm
end
end Dn
/-
  Functions of the library as table entries. Conditions: none.
-/
namespace Dn
open Go
def gn (size bytes:Nat):List MV->Option MV
 |[.list xs]=>bif pR size xs&&IT (xs.length *bytes) (2^46) then some (.fresh xs) else none
 |_=>none
def j8 (bytes:Nat):List MV->Option MV
 |[.fresh xs,.i .i64 i,.fresh ys]=>bif decide (0<=i)&&(IT i.toNat xs.length&&(!ys.isEmpty&&IT ((xs.length+ys.length) *bytes) (2^46))) then some (.fresh (xs.take i.toNat++ys++xs.drop i.toNat)) else none
 |_=>none
theorem uZ {size bytes:Nat}{ms:List MV}{r:MV}(h:gn size bytes ms=some r): ∃xs,ms=[.list xs]/\r= .fresh xs/\pR size xs=true/\xs.length *bytes<=2^46:=by
 unfold gn at h;split at h
 ·rename_i xs;cases hb:pR size xs&&IT (xs.length *bytes) (2^46) with
  |false=>simp [hb] at h
  |true=>simp only [hb,cond_true,bB] at h;simp only [aaV] at hb;exact ⟨xs,rfl,h.symm,hb.1,By hb.2⟩
 ·cases h
theorem xP {bytes:Nat}{ms:List MV}{r:MV}(h:j8 bytes ms=some r): ∃xs ys i,ms=[.fresh xs,.i .i64 ((i:Nat):Int),.fresh ys]/\r= .fresh (xs.take i++ys++xs.drop i)/\i<=xs.length/\ys≠[]/\(xs.length+ys.length) *bytes<=2^46:=by
 unfold j8 at h;split at h
 ·rename_i xs i ys;cases hb:decide (0<=i)&&(IT i.toNat xs.length&&(!ys.isEmpty&&IT ((xs.length+ys.length) *bytes) (2^46))) with
  |false=>rw [hb] at h;cases h
  |true=>
   simp only [hb,cond_true,bB] at h;simp only [aaV,decide_eq_true_eq,aed] at hb;obtain ⟨h1,h2,h3,h4⟩:=hb;refine ⟨xs,ys,i.toNat,?_,h.symm,By h2,?_,By h4⟩
   ·rw [Int.toNat_of_nonneg h1]
   ·intro hy;subst hy;simp at h3
 ·cases h
theorem jE.none (P:Program)(c:Ctx):jE P c (λ_ _=>Option.none):=⟨λf ms r h=>by cases h⟩
theorem jE.Hf {P:Program}{c:Ctx}{g:Nat->List MV->Option MV}{n:Nat}{F:List MV->Option MV}(h:jE P c g)(Ct: ∀f,c.key f=f)(hF: ∀ms r,F ms=some r->fh P c n ms r):jE P c (bt n F g):=h.add (λf ms r hk hr=>by rw [Ct] at hk;rw [hk];exact hF ms r hr)
def xQ:Code->List Oper
 | .region _ ops _=>ops.toList
 | .seq x y=>xQ x++xQ y
 | .cond _ x y=>xQ x++xQ y
 | .block _ x=>xQ x
 | .loop x=>xQ x
 |_=>[]
def iv (fn:Func)(d:Oper)(k:Nat):Oper:=match fn.body with|some c=>(xQ c).getD k d|none=>d
def OH (o:Nat->Oper):Code:= .seq (.region 18 #[o 83,o 84,o 85,o 86,o 87] false) (.seq (.region 19 #[o 88,o 89,o 90,o 91,o 92] false) (.seq (.region 20 #[o 93,o 94] false) .ret))
def iw:Oper:={dst:=none,op:= .move (.tmp 0),type:=0,pos:= "",after:= #[],guard:=none}
end Dn
/-
  Reasoning about functions on values. Conditions: none.
-/
namespace Dn
open Go
section
variable {R:Type}
@[simp] theorem ark (x : Bool)(K : Bool -> Option R) : gB (.b x) K = K x := (rfl)
@[simp] theorem arl (k : IntKind)(x : Int)(K : Int -> Option R) : gI k (.i k x) K = K x := by simp [gI]
@[simp] theorem arm (x : List UInt8)(K : List UInt8 -> Option R) : gS (.s x) K = K x := (rfl)
@[simp] theorem arn (x : List MV)(K : List MV -> Option R) : gL (.list x) K = K x := (rfl)
@[simp] theorem aro (x : kv)(K : kv -> Option R) : gH (.h x) K = K x := (rfl)
@[simp] theorem arp (x : List MV)(K : List MV -> Option R) : gA (.agg x) K = K x := (rfl)
@[simp] theorem arq (x : List MV)(K : List MV -> Option R) : gT (.bW x) K = K x := (rfl)
@[simp] theorem ars (x : List MV)(K : List MV -> Option R) : gF (.fresh x) K = K x := (rfl)
@[simp] theorem ao4 (f : Nat)(x : List MV)(K : Nat -> List MV -> Option R) : Ru (.func f x) K = K f x := (rfl)
@[simp] theorem art (f : Nat)(x : List MV)(K : MV -> Option R) : gR (.func f x) K = K (.func f x) := (rfl)
@[simp] theorem aru (m : MV)(r : List MV)(K : MV -> List MV -> Option R) : gC (m :: r) K = K m r := (rfl)
@[simp] theorem arv (K : Option R) : gN [] K = K := (rfl)
@[simp] theorem cU {α : Type}(a : α)(K : α -> Option R) : bd (some a) K = K a := (rfl)
@[simp] theorem ao5 (a b : Nat) : aa8 a b = decide (a = b) := eY a b
@[simp] theorem ai2 (K : Option R) : cQ true K = K := (rfl)
@[simp] theorem ai3 (x y : Option R) : bM true x y = x := (rfl)
@[simp] theorem agT (x y : Option R) : bM false x y = y := (rfl)
end
theorem acG {x:Int}(h1: -9223372036854775808<=x)(h2:x<=9223372036854775807):aaU .i64 x=x:=by rw [IntKind.wrap_i64];omega
section
variable {σ R:Type}{body:σ->Option (Sum σ R)}
theorem M5 {n:Nat}{s:σ}{r:R}(h:iter body n s=some r): ∀{m:Nat},n<=m->iter body m s=some r:=by
 induction n generalizing s with
 |zero=>cases h
 |succ n ih=>
  intro m hm;obtain ⟨m,rfl⟩: ∃k,m=k+1:=⟨m-1,by omega⟩
  simp only [iter] at h⊢;cases hb:body s with
  |none=>rw [hb] at h;cases h
  |some x=>
   rw [hb] at h;cases x with
   |inl s'=>exact ih h (by omega)
   |inr r'=>exact h
theorem j9 {n:Nat}{s:σ}{r:R}(h:iter body n s=some r):Loop body s=some r:=by
 have he: ∃r n,iter body n s=some r:=⟨r,n,h⟩
 unfold Loop;rw [dif_pos he];obtain ⟨m,hm⟩:=abv he;have h1:=M5 h (Nat.le_max_left n m);have h2:=M5 hm (Nat.le_max_right n m);rw [h1] at h2;exact h2.symm
theorem ZX (I:σ->Prop) (μ:σ->Nat)(Q:R->Prop)(h: ∀s,I s->(∃s',body s=some (.inl s')/\I s'/\μ s'<μ s)\/(∃r,body s=some (.inr r)/\Q r)){s:σ}(hs:I s): ∃r,Loop body s=some r/\Q r:=by
 have key: ∀k s,I s->μ s<k-> ∃r,iter body k s=some r/\Q r:=by
  intro k;induction k with
  |zero=>intro s _ h;omega
  |succ k ih=>
   intro s hs hk;rcases h s hs with ⟨s',e,hi,hm⟩|⟨r,e,hq⟩
   ·obtain ⟨r,e2,hq⟩:=ih s' hi (by omega);exact ⟨r,by simp only [iter,e];exact e2,hq⟩
   ·exact ⟨r,by simp only [iter,e],hq⟩
 obtain ⟨r,e,hq⟩:=key (μ s+1) s hs (by omega);exact ⟨r,j9 e,hq⟩
theorem ZY (S:Nat->σ)(N:Nat)(Q:R->Prop)(P:Nat->Prop)(h0:P 0)(h: ∀k,k<N->P k->(body (S k)=some (.inl (S (k+1)))/\P (k+1))\/(∃r,body (S k)=some (.inr r)/\Q r))(he:P N-> ∃r,body (S N)=some (.inr r)/\Q r): ∃r,Loop body (S 0)=some r/\Q r:=by
 have key: ∀d k,k+d=N->P k-> ∃r,iter body (d+1) (S k)=some r/\Q r:=by
  intro d;induction d with
  |zero=>
   intro k hk hp;have:k=N:=by omega
   subst this;obtain ⟨r,e,hq⟩:=he hp;exact ⟨r,by simp only [iter,e],hq⟩
  |succ d ih=>
   intro k hk hp;rcases h k (by omega) hp with ⟨e,NS⟩|⟨r,e,hq⟩
   ·obtain ⟨r,e2,hq⟩:=ih (k+1) (by omega) NS;exact ⟨r,by rw [iter,e];exact e2,hq⟩
   ·exact ⟨r,by rw [iter,e],hq⟩
 obtain ⟨r,e,hq⟩:=key N 0 (by omega) h0;exact ⟨r,j9 e,hq⟩
end
end Dn
/-
  From functions on plain values to functions on typed values. Conditions: none.
-/
namespace Dn
open Go
def cn {R:Type}(l:List MV)(K:Nat->Option R):Option R:=K l.length
def ix {α R:Type}(l:List α)(i:Int)(K:α->Option R):Option R:=match (if 0<=i then l[i.toNat]? else none) with|some x=>K x|none=>none
def uu (l:List UInt8):List Int:=l.map λb=>(b.toNat:Int)
@[simp] theorem rY (l : List UInt8) : Ds l = (uu l).map (MV.i .u8) := by unfold Ds uu; rw [afe]; rfl
def jG {α:Type}(bytes:Nat)(l:List α):Option (List α):=if l.length *bytes<=2^46 then some l else none
def Bm {α:Type}(xs:List α)(i j:Int):Option (List α):=if 0<=i/\i<=j/\j<=(xs.length:Int) then some (xs.take i.toNat++xs.drop j.toNat) else none
def u5 {α:Type}(bytes:Nat)(xs:List α)(i:Int)(ys:List α):Option (List α):=if 0<=i/\i.toNat<=xs.length/\ys≠[]/\(xs.length+ys.length) *bytes<=2^46 then some (xs.take i.toNat++ys++xs.drop i.toNat) else none
@[reducible] def V2 {α : Type}(f : α -> MV)(l : List α) : MV := .list (l.map f)
@[reducible] def Lu {α : Type}(f : α -> MV)(l : List α) : MV := .fresh (l.map f)
def Sm {A B:Type}(g:B->A)(x:Option A)(y:Option B):Prop:=x=y.map g
section
variable {A B A' B' α:Type}{g:B->A}{T:Option B}
theorem Sm.at {x x':Option A}(e:x=x')(h:Sm g x' T):Sm g x T:=e▸h
theorem bo {l:List MV}{K:List MV->Option A}(h:Sm g (K l) T):Sm g (gA (.agg l) K) T:=h
theorem bH {x:Bool}{K:Bool->Option A}(h:Sm g (K x) T):Sm g (gB (.b x) K) T:=h
theorem bJ {x:List UInt8}{K:List UInt8->Option A}(h:Sm g (K x) T):Sm g (gS (.s x) K) T:=h
theorem aT {x:List MV}{K:List MV->Option A}(h:Sm g (K x) T):Sm g (gL (.list x) K) T:=h
theorem M6 {x:MV}{outs:List MV}{K:MV->List MV->Option A}(h:Sm g (K x outs) T):Sm g (gW (.dx x outs) K) T:=h
theorem cz {x:List MV}{K:List MV->Option A}(h:Sm g (K x) T):Sm g (gT (.bW x) K) T:=h
theorem mE {x:List MV}{K:List MV->Option A}(h:Sm g (K x) T):Sm g (gF (.fresh x) K) T:=h
theorem M7 {x:List MV}{K:List MV->Option A}(h:Sm g (K x) T):Sm g (gP (.rp x) K) T:=h
theorem xR {f:Nat}{x:List MV}{K:Nat->List MV->Option A}(h:Sm g (K f x) T):Sm g (Ru (.func f x) K) T:=h
theorem xS {f:Nat}{x:List MV}{K:MV->Option A}(h:Sm g (K (.func f x)) T):Sm g (gR (.func f x) K) T:=h
theorem aG {k:IntKind}{n:Int}{K:Int->Option A}(h:Sm g (K n) T):Sm g (gI k (.i k n) K) T:=by simpa using h
theorem aj {m:MV}{r:List MV}{K:MV->List MV->Option A}(h:Sm g (K m r) T):Sm g (gC (m::r) K) T:=h
theorem aI {K:Option A}(h:Sm g K T):Sm g (gN [] K) T:=h
theorem ar {x:Option A'}{y:Option B'}{f:B'->A'}{K:A'->Option A} {K':B'->Option B}(h:Sm f x y)(hk: ∀b,Sm g (K (f b)) (K' b)):Sm g (bd x K) (bd y K'):=by
 unfold Sm at h;subst h;cases y with
 |none=>rfl
 |some b=>exact hk b
theorem aU {p:Prop}[Decidable p]{X Y:Option A} {X' Y':Option B}(h1:Sm g X X')(h2:Sm g Y Y'):Sm g (bM (decide p) X Y) (if p then X' else Y'):=by by_cases h:p<;>simpa [h] using (by assumption)
theorem aQ {c:Bool}{X Y:Option A} {X' Y':Option B}(h1:Sm g X X')(h2:Sm g Y Y'):Sm g (bM c X Y) (if c then X' else Y'):=by cases c<;>simpa using (by assumption)
theorem b9 {p:Prop}[Decidable p]{X:Option A} {X':Option B}(h1:Sm g X X'):Sm g (cQ (decide p) X) (if p then X' else none):=by
 by_cases h:p
 ·simpa [h] using h1
 ·simp [h,cQ,Sm]
theorem acH {c:Bool}{X:Option A} {X':Option B}(h1:Sm g X X'):Sm g (cQ c X) (if c then X' else none):=by
 cases c
 ·simp [cQ,Sm]
 ·simpa using h1
theorem ck {c:Bool}{X:Option A}(hc:c=true)(h:Sm g X T):Sm g (cQ c X) T:=by subst hc;exact h
theorem pZ {c:Bool}{X Y:Option A}(hc:c=true)(h:Sm g X T):Sm g (bM c X Y) T:=by subst hc;exact h
theorem p0 {c:Bool}{X Y:Option A}(hc:c=false)(h:Sm g Y T):Sm g (bM c X Y) T:=by subst hc;exact h
theorem vM {l:List MV}{n:Nat}{K:Nat->Option A}(e:l.length=n)(h:Sm g (K n) T):Sm g (cn l K) T:=by subst e;exact h
theorem cF {l:List MV}{M:List α}{f:α->MV}{i:Int}{K:MV->Option A} {K':α->Option B}(e:l=M.map f)(h: ∀y,Sm g (K (f y)) (K' y)):Sm g (idx l i K) (ix M i K'):=by
 subst e;unfold idx UU ix;by_cases hi:0<=i
 ·simp only [hi,if_true,acw];cases M[i.toNat]? with
  |none=>rfl
  |some y=>exact h y
 ·simp only [hi,if_false];rfl
theorem HS {R:Type}{a b x:Option R}(h1:a=x)(h2:b=x):both a b=x:=by subst h1;subst h2;unfold both;rw [if_pos rfl]
theorem OI {X Y:Option A}{T:Option B}(e:Y=X)(h:Sm g X T):Sm g Y T:=by rw [e];exact h
def Jz {R:Type}(l:List Int)(K:List UInt8->Option R):Option R:=if l.all isByte then K (l.map λn=>UInt8.ofNat n.toNat) else none
theorem ZZ {R:Type}{M:List Int}: ∀{K:List UInt8->Option R},K6 (M.map (MV.i .u8)) K=Jz M K:=by
 induction M with
 |nil=>intro K;rfl
 |cons n M ih=>intro K;simp only [aeQ,K6,byK,gI,decide_true,cond_true,ih];cases h:isByte n<;>simp [cQ,Jz,h]
theorem Z4 {l:List MV}{M:List Int}{K:List UInt8->Option A} {K':List UInt8->Option B}(e:l=M.map (MV.i .u8))(h: ∀b,Sm g (K b) (K' b)):Sm g (K6 l K) (Jz M K'):=by
 subst e;rw [ZZ];unfold Jz;split
 ·exact h _
 ·rfl
theorem fO {d:A}{a:B}(e:d=g a):Sm g (some d) (some a):=by subst e;rfl
theorem acI {p k:Nat}{K:Nat->Option A}{X:Option B}(h:k=p->Sm g (K p) X):Sm g (K0 [p] k K) (if k=p then X else none):=by
 by_cases hk:k=p
 ·subst hk;rw [if_pos rfl];unfold K0;rw [show aa8 k k=true from Nat.beq_refl k];exact h rfl
 ·rw [if_neg hk];unfold K0;rw [show aa8 k p=false from by simpa using hk];rfl
theorem qA {p q k:Nat}{r:List Nat}{K:Nat->Option A}{X Y:Option B}(h:k=p->Sm g (K p) X)(h2:Sm g (K0 (q::r) k K) Y):Sm g (K0 (p::q::r) k K) (if k=p then X else Y):=by
 by_cases hk:k=p
 ·subst hk;rw [if_pos rfl];unfold K0;rw [show aa8 k k=true from Nat.beq_refl k];exact h rfl
 ·rw [if_neg hk];unfold K0;rw [show aa8 k p=false from by simpa using hk];exact h2
theorem xT {n:Nat}{l:List MV}{M:List α}{f:α->MV}(e:l=M.map f)(h: ∀x,(f x).w=n):pR n l=true:=by subst e;unfold pR;rw [List.all_map,aa0];intro x _;simp [h x]
theorem QB {σ σ' ρ ρ':Type}{e:σ'->σ}{f:ρ'->ρ}{K:σ->Option (Sum σ ρ)} {K':σ'->Option (Sum σ' ρ')}(h: ∀s,Sm (Sum.map e f) (K (e s)) (K' s))(n:Nat)(s:σ'):iter K n (e s)=(iter K' n s).map f:=by
 induction n generalizing s with
 |zero=>rfl
 |succ n ih=>
  have:=h s;unfold Sm at this;simp only [iter,this];cases K' s with
  |none=>rfl
  |some x=>cases x with
   |inl s'=>exact ih s'
   |inr r=>rfl
theorem M8 {σ ρ:Type}{K:σ->Option (Sum σ ρ)}{s:σ}(h: ∀n,iter K n s=none):Loop K s=none:=by unfold Loop;rw [dif_neg];rintro ⟨r,n,e⟩;rw [h] at e;cases e
theorem dt {σ σ' ρ ρ':Type}{K:σ->Option (Sum σ ρ)} {K':σ'->Option (Sum σ' ρ')}{d0:σ}{s0:σ'}(e:σ'->σ)(f:ρ'->ρ)(e0:d0=e s0)(h: ∀s,Sm (Sum.map e f) (K (e s)) (K' s)):Sm f (Loop K d0) (Loop K' s0):=by
 subst e0;unfold Sm;by_cases hx: ∃r n,iter K' n s0=some r
 ·obtain ⟨r,n,hn⟩:=hx;rw [j9 hn];have:iter K n (e s0)=some (f r):=by rw [QB h,hn];rfl
  rw [j9 this];rfl
 ·have h1: ∀n,iter K' n s0=none:=λn=>by
   cases hn:iter K' n s0 with
   |none=>rfl
   |some r=>exact absurd ⟨r,n,hn⟩ hx
  rw [M8 h1,M8 λn=>by rw [QB h,h1];rfl];rfl
theorem rZ {size bytes:Nat}{f:α->MV}(hw: ∀x,(f x).w=size)(l:List α):Sm (Lu f) (gn size bytes [.list (l.map f)]) (jG bytes l):=by
 unfold Sm gn jG;simp only [xT (rfl:l.map f=l.map f) hw,aeV,adz];by_cases h:l.length *bytes<=2^46
 ·rw [show IT (l.length *bytes) (2^46)=true from adK h,if_pos h];rfl
 ·rw [show IT (l.length *bytes) (2^46)=false from by rw [aeh];intro hb;exact h (By hb),if_neg h];rfl
theorem QC {f:α->MV}(xs:List α)(i j:Int):Sm (Lu f) (qz [.fresh (xs.map f),.i .i64 i,.i .i64 j]) (Bm xs i j):=by unfold Sm qz Bm;simp only [adz];by_cases h1:0<=i<;>by_cases h2:i<=j<;>by_cases h3:j<=(xs.length:Int)<;>simp [h1,h2,h3,Lu]
theorem JA {bytes:Nat}{f:α->MV}(xs:List α)(i:Int)(ys:List α):Sm (Lu f) (j8 bytes [.fresh (xs.map f),.i .i64 i,.fresh (ys.map f)]) (u5 bytes xs i ys):=by
 unfold Sm j8 u5;simp only [adz];have hb: ∀a b:Nat,IT a b=decide (a<=b):=λa b=>by
  by_cases h:a<=b
  ·rw [adK h,decide_eq_true h]
  ·rw [decide_eq_false h,aeh];intro hh;exact h (By hh)
 rw [hb,hb];have he:(ys.map f).isEmpty=decide (ys=[]):=by cases ys<;>simp
 rw [he];by_cases h1:0<=i<;>by_cases h2:i.toNat<=xs.length<;>by_cases h3:ys=[]<;>by_cases h4:(xs.length+ys.length) *bytes<=2^46<;>simp [h1,h2,h3,h4,Lu]
end
abbrev SL (f:Option MV):List MV->Option MV|[]=>f|_=>none
abbrev r8 (f:MV->Option MV):List MV->Option MV|[a]=>f a|_=>none
abbrev ga (f:MV->MV->Option MV):List MV->Option MV|[a,b]=>f a b|_=>none
abbrev OJ (f:MV->MV->MV->Option MV):List MV->Option MV|[a,b,c]=>f a b c|_=>none
abbrev acJ (f:MV->MV->MV->MV->Option MV):List MV->Option MV|[a,b,c,d]=>f a b c d|_=>none
abbrev afO (f:MV->MV->MV->MV->MV->Option MV):List MV->Option MV|[a,b,c,d,e]=>f a b c d e|_=>none
theorem Eb {f:Option MV}{B:List MV->Option MV}(h:B []=f){ms:List MV}{r:MV}(e:SL f ms=some r):B ms=some r:=by
 unfold SL at e;split at e
 ·rw [h];exact e
 ·cases e
theorem eN {f:MV->Option MV}{B:List MV->Option MV}(h: ∀a,B [a]=f a){ms:List MV}{r:MV}(e:r8 f ms=some r):B ms=some r:=by
 unfold r8 at e;split at e
 ·rw [h];exact e
 ·cases e
theorem bE {f:MV->MV->Option MV}{B:List MV->Option MV}(h: ∀a b,B [a,b]=f a b){ms:List MV}{r:MV}(e:ga f ms=some r):B ms=some r:=by
 unfold ga at e;split at e
 ·rw [h];exact e
 ·cases e
theorem xU {f:MV->MV->MV->Option MV}{B:List MV->Option MV}(h: ∀a b c,B [a,b,c]=f a b c){ms:List MV}{r:MV}(e:OJ f ms=some r):B ms=some r:=by
 unfold OJ at e;split at e
 ·rw [h];exact e
 ·cases e
theorem Uz {f:MV->MV->MV->MV->Option MV}{B:List MV->Option MV}(h: ∀a b c d,B [a,b,c,d]=f a b c d){ms:List MV}{r:MV}(e:acJ f ms=some r):B ms=some r:=by
 unfold acJ at e;split at e
 ·rw [h];exact e
 ·cases e
theorem acK {f:MV->MV->MV->MV->MV->Option MV}{B:List MV->Option MV}(h: ∀a b c d i,B [a,b,c,d,i]=f a b c d i){ms:List MV}{r:MV}(e:afO f ms=some r):B ms=some r:=by
 unfold afO at e;split at e
 ·rw [h];exact e
 ·cases e
theorem jE.fn {P:Program} {c c':Ctx}{g:Nat->List MV->Option MV}{n:Nat}{fn:Func}{bR:List (List Kd)}{F:List MV->Option MV}(h:jE P c g)(hl:DT c c')(hgg:c'.g=g)(kR:fZ P c.ti)(jP:RR P c.ti)(NQ: ∀t k,c.fk t=some k->P.underlying t=some (.float k))(TX:Fb P c)(Qh:P.follows .mixedOrders=true)(Jd:xL P c)(hf:P.funcs[n]? =some fn)(hh:MU c' n fn bR=true)(Ct: ∀f,c.key f=f){fresh:Option Nat}(Ip:Jh c' n fn fresh=true)(hF: ∀{ms r},F ms=some r->Mj c' bR fresh fn ms=some r):jE P c (bt n F g):=by have hb:=jE.body h hl hgg kR jP NQ TX Qh Jd hf hh Ct Ip;refine h.add (λf ms r hk hr=> ?_);refine hb.all f ms r ?_;unfold bt;rw [hk];simp [hF hr]
def Z5 {α:Type}(p:α->Option Bool):List α->Option (List α)
 |[]=>some []
 |x::xs=>bd (p x) λb=>bd (Z5 p xs) λys=>some (if b then ys else x::ys)
def Ec {α σ:Type}(p:α->σ->Option (Bool×σ)):σ->List α->Option (List α×σ)
 |s,[]=>some ([],s)
 |s,x::xs=>bd (p x s) λq=>bd (Ec p q.2 xs) λr=>some (if q.1 then r.1 else x::r.1,r.2)
theorem Z6 {l:List MV} {α:Type}{M:List α}{f:α->MV}(e:l=M.map f)(h: ∀x,G0 (f x)=true):l.all G0=true:=by subst e;rw [List.all_map,aa0];intro x _;exact h x
theorem Z7 {α σ:Type}{f:α->MV}{lv:σ->List MV}{g:Nat->List MV->Option MV}{k:Nat}{bR:List MV}{p:α->σ->Option (Bool×σ)}(h: ∀x s,Sm (λr=>MV.dx (.b r.1) (lv r.2)) (g k (f x::(bR++[.cell (.func 0 (lv s))]))) (p x s)): ∀(s:σ) (L:List α),Sm (λr=>(r.1.map f,lv r.2)) (na (Mh g k bR) (lv s) (L.map f)) (Ec p s L)
 |s,[]=>rfl
 |s,x::xs=>by
  have hx:=h x s;unfold Sm at hx⊢;simp only [aeQ,na,Mh,Ec,hx];cases p x s with
  |none=>rfl
  |some q=>
   have ih:=Z7 h q.2 xs;unfold Sm at ih;simp only [aeB,ih];show _=Option.map _ (bd (Ec p q.2 xs) λr=>_);cases Ec p q.2 xs with
   |none=>rfl
   |some r=>obtain ⟨b,s'⟩:=q;cases b<;>rfl
end Dn
/-
  What functions of package strings yield: plain and typed. Conditions: none.
-/
namespace Dn
open Go
def Ar (c:UInt8):List UInt8->List (List UInt8)
 |[]=>[[]]
 |x::l=>if x=c then []::Ar c l else match Ar c l with
  |p::r=>(x::p)::r
  |[]=>[[x]]
def JB:List MV->Option MV
 |[.s a,.s b]=>bif (IT 1 a.length&&IT a.length (2^46))&&(IT 2 b.length&&(IT b.length 1000&&b.all λx=>decide (x.toNat<128))) then some (.s (Lib.trimS a b)) else none
 |_=>none
def ta:List MV->Option MV
 |[.s a,.i .i32 r]=>bif decide (0<=r/\r<128) then some (.b (decide (0<=Lib.indexByte a r.toNat.toUInt8))) else none
 |_=>none
def As:List MV->Option MV
 |[.s a,.s [c]]=>bif IT a.length 4294967280 then some (.fresh ((Ar c a).map MV.s)) else none
 |_=>none
def UA (a b:List UInt8):Option (List UInt8):=bif (IT 1 a.length&&IT a.length (2^46))&&(IT 2 b.length&&(IT b.length 1000&&b.all λx=>decide (x.toNat<128))) then some (Lib.trimS a b) else none
def Ed (a:List UInt8)(r:Int):Option Bool:=bif decide (0<=r/\r<128) then some (decide (0<=Lib.indexByte a r.toNat.toUInt8)) else none
def OL (a s:List UInt8):Option (List (List UInt8)):=match s with
 |[c]=>bif IT a.length 4294967280 then some (Ar c a) else none
 |_=>none
theorem afP (a b:List UInt8):Sm MV.s (JB [.s a,.s b]) (UA a b):=by unfold Sm JB UA;dsimp only;cases (IT 1 a.length&&IT a.length (2^46))&&(IT 2 b.length&&(IT b.length 1000&&b.all λx=>decide (x.toNat<128)))<;>rfl
theorem V3 (a:List UInt8)(r:Int):Sm MV.b (ta [.s a,.i .i32 r]) (Ed a r):=by unfold Sm ta Ed;dsimp only;cases decide (0<=r/\r<128)<;>rfl
theorem acL (a s:List UInt8):Sm (Lu MV.s) (As [.s a,.s s]) (OL a s):=by
 unfold Sm OL;split
 ·rename_i c;unfold As;dsimp only;cases IT a.length 4294967280<;>rfl
 ·rename_i h;unfold As;split
  ·rename_i h2;simp only [List.cons.injEq,MV.s.injEq,and_true] at h2;exact absurd h2.2 (h _)
  ·rfl
end Dn
/-
  Functions of package strings as table entries, by the shelf's contracts. Conditions: none.
-/
namespace Dn
open Go
theorem V4 (c:UInt8): ∀l:List UInt8,Lib.splitK [c] 0 (Lib.count l [c]) l=Ar c l:=by
 intro l;induction l with
 |nil=>rw [Lib.count_one];rfl
 |cons b l ih=>
  by_cases hb:b=c
  ·subst hb;have Hc:aa1 (b::l) [b]=0:=by rw [aa1];simp [List.isPrefixOf]
   rw [Lib.count_cons_eq,afd,Lib.splitK,Hc];simp [Ar,ih]
  ·rw [Lib.count_cons_ne b c l hb];have hp:([c]:List UInt8).isPrefixOf (b::l)=false:=by simp [List.isPrefixOf,Ne.symm hb]
   have Hc:aa1 (b::l) [c]=if aa1 l [c]== -1 then-1 else aa1 l [c]+1:=by rw [aa1,hp];simp
   simp only [Ar,hb,if_false];rw [<-ih];cases hk:Lib.count l [c] with
   |zero=>rfl
   |succ k=>
    have df:aa1 l [c]≠ -1:=by intro he;rw [Lib.count_miss he] at hk;cases hk
    have X6:=Lib.index_ge l [c];obtain ⟨j,hj⟩: ∃j:Nat,aa1 l [c]=j:=⟨(aa1 l [c]).toNat,by omega⟩
    have ai4:(aa1 l [c]== -1)=false:=by simpa using df
    rw [ai4,if_neg (by decide)] at Hc;have am3:(aa1 (b::l) [c]== -1)=false:=by rw [Hc,hj];simp;omega
    rw [Lib.splitK,Lib.splitK,ai4,am3,Hc,hj];have e1:((j:Int)+1).toNat=j+1:=by omega
    simp [e1]
theorem V5 (c:UInt8)(s:ByteArray):(acn ⟨#[c]⟩ 0 (aaW s ⟨#[c]⟩) s).map (·.data.toList)=Ar c s.data.toList:=by rw [Lib.splitB_data];exact V4 c _
section
variable {P:Program} {ρ:Go.Shelf.Ren}{c:Ctx}
theorem Fw {f:FuncId}{args:Array Value}{w:World}{S:Ending->World->Prop}{R:Value->World->Prop}(he: ∀args w,(callFunc f args).run P w= .ok (.enter f args) w)(hc:Calls P f args w S)(h: ∀e w',S e w'-> ∃v,e= .returned v/\R v w'): cm P f args w R:=by unfold cm;rw [he];exact hc.mono h
theorem OM {key:Nat->Nat} {φ:Ph}{v:Value}{l:List UInt8}(h:gk key φ [v] (.s l)): ∃b:ByteArray,v= .string b/\b.data.toList=l:=by generalize hv:[v]=vs at h;cases h;rename_i b;exact ⟨b,by simpa using hv,rfl⟩
theorem UB {Z:Nat->Prop} {φ:Ph}{w:World}{k:Nat}{vs:List Value}{a b:List UInt8}(hg:c.cR k=false)(h:dz c Z φ w k vs [.s a,.s b]): ∃x y:ByteArray,vs=[.string x,.string y]/\x.data.toList=a/\y.data.toList=b:=by simp only [dz,hg,AI,if_false] at h;obtain ⟨v,u,rfl,⟨_,h1⟩,v2,u2,rfl,⟨_,h2⟩,rfl⟩:=h;obtain ⟨x,rfl,hx⟩:=OM h1;obtain ⟨y,rfl,hy⟩:=OM h2;exact ⟨x,y,rfl,hx,hy⟩
theorem acM {Z:Nat->Prop} {φ:Ph}{w:World}{k:Nat}{kd:IntKind}{vs:List Value}{a:List UInt8}{n:Int}(hg:c.cR k=false)(h:dz c Z φ w k vs [.s a,.i kd n]): ∃x:ByteArray,vs=[.string x,.int kd n]/\x.data.toList=a:=by simp only [dz,hg,AI,if_false] at h;obtain ⟨v,u,rfl,⟨_,h1⟩,v2,u2,rfl,⟨_,h2⟩,rfl⟩:=h;obtain ⟨x,rfl,hx⟩:=OM h1;generalize hv:[v2]=vs at h2;cases h2;simp at hv;subst hv;exact ⟨x,rfl,hx⟩
theorem V6 (w:World)(q:Nat):Rest w (w.drewN q):=⟨rfl,rfl,rfl⟩
theorem Z8 {φ:Ph}{w:World}(hi:mb φ w){b:Nat}(hb:w.heap.size<=b)(off:Nat):φ b off=none:=by
 cases hp:φ b off with
 |none=>rfl
 |some u=>have:=aar w _ (hi _ _ _ hp);simp at this;omega
theorem acN (L:afz P ρ)(ai5:(P.info? (ρ.t 116)).map (λi=>(i.zero,i.size))=some (some (.agg (abS 256 (.bool false))),256))(hg:c.cR (c.key (ρ.f 160))=false){ms:List MV}{r:MV}(h:JB ms=some r): fh P c (ρ.f 160) ms r:=by
 unfold JB at h;split at h
 ·rename_i a b;cases hb:(IT 1 a.length&&IT a.length (2^46))&&(IT 2 b.length&&(IT b.length 1000&&b.all λx=>decide (x.toNat<128))) with
  |false=>rw [hb] at h;cases h
  |true=>
   rw [hb] at h;simp only [cond_true,bB] at h;subst h;simp only [aaV] at hb;obtain ⟨⟨h1,h2⟩,h3,h4,h5⟩:=hb;have h1:=By h1;have h2:=By h2;have h3:=By h3;have h4:=By h4;intro φ w Z vs hz ha hi;obtain ⟨x,y,rfl,rfl,rfl⟩:=UB hg ha;refine Fw (abZ L.f160 (by kernel_rfl) rfl) (Go.Proofs.Any.strings_Trim_set L (Go.zero_of_info ai5).1 (Go.zero_of_info ai5).2 x y w (by rw [abQ];exact h3) (by rw [abQ];omega) (by rw [abQ];omega) (by rw [abQ];omega) (Go.Proofs.ascii_of_all h5)) ?_;rintro e w' ⟨rfl,q,rfl⟩;refine ⟨_,rfl,φ,?_,?_,?_⟩
   ·have g1:=cL.alloc w (abu y.data.toList) (ρ.t 116);have g2:=cL.alloc (w.alloc (.cells (abu y.data.toList) (ρ.t 116))) (abu y.data.toList) (ρ.t 116);have g:=g1.trans' g2;exact ⟨.refl φ,λb _ hl=>g.pF b hl,λ_ _ _=>rfl,g.size,g.rest.trans (V6 _ q)⟩
   ·intro b o v hv;have g1:=cL.alloc w (abu y.data.toList) (ρ.t 116);have g2:=cL.alloc (w.alloc (.cells (abu y.data.toList) (ρ.t 116))) (abu y.data.toList) (ρ.t 116);exact (g1.trans' g2).cell (hi b o v hv)
   ·exact ⟨rfl,by have:=gk.s (key:=c.key) (φ:=φ) (⟨(Lib.trimS x.data.toList y.data.toList).toArray⟩:ByteArray);simpa using this⟩
 ·cases h
theorem SM (L:afE P ρ)(hg:c.cR (c.key (ρ.f 151))=false){ms:List MV}{r:MV}(h:ta ms=some r):fh P c (ρ.f 151) ms r:=by
 unfold ta at h;split at h
 ·rename_i a n;cases hb:decide (0<=n/\n<128) with
  |false=>rw [hb] at h;cases h
  |true=>rw [hb] at h;simp only [cond_true,bB] at h;subst h;obtain ⟨h1,h2⟩:=of_decide_eq_true hb;intro φ w Z vs hz ha hi;obtain ⟨x,rfl,rfl⟩:=acM hg ha;refine Fw (abZ L.f151 (by kernel_rfl) rfl) (adL L x n w h1 h2) ?_;rintro e w' ⟨rfl,rfl⟩;exact ⟨_,rfl,φ,.refl _ _ _,hi,rfl,.b _⟩
 ·cases h
open Go.Proofs Go.Shelf Go.RowKit in
theorem V7 (L:adZ P ρ)(hi9:(P.info? (ρ.t 9)).map (λi=>(i.zero,i.size,i.bytes))=some (some (.string abW),1,16))(s:ByteArray)(b:UInt8)(w:World)(hs:s.size<4294967281): Calls P (ρ.f 146) #[.string s,.string ⟨#[b]⟩] w λe w'=>
  e= .returned (.slice (some ⟨w.heap.size,0,none⟩) (aaW s ⟨#[b]⟩+1) (aaW s ⟨#[b]⟩+1))/\w'=w.alloc (.cells ((acn ⟨#[b]⟩ 0 (aaW s ⟨#[b]⟩) s).map ab4).toArray (ρ.t 9)):=by
 have h1:1<=(⟨#[b]⟩:ByteArray).size:=OF _;have hle:=Lib.countB_le ⟨#[b]⟩ h1 s.size s (OF _);have hlen:=Lib.splitB_all ⟨#[b]⟩ h1 0 _ s rfl;have hC:Calls P (ρ.f 138) #[.string s,.string ⟨#[b]⟩] w λe w'=>e= .returned (.int .i64 (aaW s ⟨#[b]⟩))/\w'=w:=by
  refine (Any.strings_Count_one {L with} s b w).mono λe w' ⟨he,hw⟩=>⟨?_,hw⟩
  rw [he];show _=Ending.returned (ae0 .i64 ((Lib.count s.data.toList [b]:Nat):Int));rw [Lib.count_one];rfl
 have c:=Any.strings_genSplit_core {L with} hi9 s ⟨#[b]⟩ 0 (-1) (aaW s ⟨#[b]⟩+1) w hs h1 (abD _) (λx q hx=>(Any.strings_Index_one {L with} x b _).mono λe w' ⟨he,hw⟩=>⟨by rw [he];show _=Ending.returned (ae0 .i64 (aa1 x.data.toList [b]));rw [Lib.index_one],hw⟩) hC (by decide) (by decide) (by rw [if_pos (by decide)];omega);rw [Nat.add_sub_cancel,hlen] at c;have e2:Lib.cellsOf (acn ⟨#[b]⟩ 0 (aaW s ⟨#[b]⟩) s) (aaW s ⟨#[b]⟩+1)=((acn ⟨#[b]⟩ 0 (aaW s ⟨#[b]⟩) s).map ab4).toArray:=by rw [<-hlen];exact Lib.cellsOf_full _
 rw [e2] at c;clear hC hlen hle e2;have t3:=L.t3;have t9:=L.t9;have t31:=L.t31;have a3:=L.a3;have a9:=L.a9;have a31:=L.a31;have z3:=L.z3;have v3:=L.v3;have z9:=L.z9;have v9:=L.v9;have z31:=L.z31;have v31:=L.v31;have arw: ∀args w,(callFunc (ρ.f 221) args).run P w= .ok (.enter (ρ.f 221) args) w:=enters_of L.f221 (by kernel_rfl) rfl;go_enter L.f146,Body.n146_ntmps ρ;go_wp2_with (go_at_fn (ρ.f 221);refine c.mono ?_;rintro e w' ⟨rfl,hw⟩;rw [hw]);go_ret;exact ⟨rfl,rfl⟩
theorem JC {key:Nat->Nat} {φ:Ph}: ∀l:List ByteArray,aP key φ 1 (l.map ab4) (l.map λb=>MV.s b.data.toList)
 |[]=>rfl
 |b::l=>⟨[.string b],_,rfl,rfl,.s b,JC l⟩
theorem Z9 {I:TI}(L:adZ P ρ)(hi9:(P.info? (ρ.t 9)).map (λi=>(i.zero,i.size,i.bytes))=some (some (.string abW),1,16))(hg:c.cR (c.key (ρ.f 146))=false)(ig:c.mY (c.key (ρ.f 146))=ρ.t 9)(hI:c.tv (ρ.t 9)=some I)(HI:I.size=1){ms:List MV}{r:MV}(h:As ms=some r):fh P c (ρ.f 146) ms r:=by
 unfold As at h;split at h
 ·rename_i a b;cases hb:IT a.length 4294967280 with
  |false=>rw [hb] at h;cases h
  |true=>
   rw [hb] at h;simp only [cond_true,bB] at h;subst h;have hb:=By hb;intro φ w Z vs hz ha hi;obtain ⟨x,y,rfl,rfl,hy⟩:=UB hg ha;have hy':y=⟨#[b]⟩:=by
    cases y with
    |mk d=>congr 1;apply adv.1;exact hy
   subst hy';have hs:x.size<4294967281:=by rw [abQ];omega
   refine Fw (abZ L.f146 (by kernel_rfl) rfl) (V7 L hi9 x b w hs) ?_;rintro e w' ⟨rfl,rfl⟩;have h1:1<=(⟨#[b]⟩:ByteArray).size:=OF _;have hle:=Lib.countB_le ⟨#[b]⟩ h1 x.size x (OF _);have hlen:=Lib.splitB_all ⟨#[b]⟩ h1 0 _ x rfl;have jP:=V5 b x;have g1:=cL.alloc w ((acn ⟨#[b]⟩ 0 (aaW x ⟨#[b]⟩) x).map ab4).toArray (ρ.t 9);obtain ⟨kR,hc⟩:=aV hI;refine ⟨_,rfl,φ,g1.trans (Z:=bu.plain Z) hz φ,λb' o v hv=>g1.cell (hi b' o v hv),?_⟩;show cj _ _ _ _ _ ⟨c.mY (c.key (ρ.f 146)),false,_⟩;rw [ig];generalize hpc:acn ⟨#[b]⟩ 0 (aaW x ⟨#[b]⟩) x=pcs at *;rw [<-jP,afe];refine ⟨I,pcs.map ab4,kR,hc,?_,by rw [HI];exact JC pcs,?_⟩
   ·rw [HI];refine ⟨by simp,.inr ⟨w.heap.size,aaW x ⟨#[b]⟩+1,_,by simp [hlen],abD _,gj w _,by simp [hlen],by unfold Go.maxLen;rw [abQ] at hle;omega,by simp [hlen],?_⟩⟩;simp [List.take_of_length_le]
   ·intro aR jt;simp [abk] at jt;subst jt;exact ⟨hz _ (OF _),λoff u hu=>(by have hu:φ w.heap.size off=some u:=hu;rw [Z8 hi (OF _)] at hu;cases hu),λhc=>False.elim hc⟩
 ·cases h
end
end Dn
/-
  Going through a map, in whatever order; a label at the end of a scope. Conditions: none.
-/
namespace Dn
open Go
structure Rng where
 i1:Nat
 o1:Array Oper
 a1:Oper
 b1:Oper
 x:Operand
 d1:Nat
 t:Nat
 d2:Nat
 k:Nat
 i2:Nat
 o2:Array Oper
 a2:Oper
 r2:List Oper
 cx:Operand
 kx:Nat
 k5:Nat
 i3:Nat
 o3:Array Oper
 a3:Oper
 r3:List Oper
 rest:Code
def Rng.body (q:Rng):Code:= .seq (.region q.i2 q.o2 false) (.seq (.cond q.cx .skip (.exit q.kx)) (.block q.k5 (.seq (.region q.i3 q.o3 false) q.rest)))
def Rng.code (q:Rng):Code:= .seq (.region q.i1 q.o1 false) (.block q.k (.loop q.body))
def isNone {α:Type}:Option α->Bool
 |none=>true
 |some _=>false
section
variable {P:Program}{c:Ctx}{Z Zb Zi:bu} {e e' e3:Env}{st bT oK B:St} {a a':Act} {w w':World}{R:Type}{r:R}{Q:Exit->Act->World->Prop}{o:Oper}{hn:qQ}
end
end Dn
/-
  Going through a map, in whatever order: it does what is said. Conditions: none.
-/
namespace Dn
open Go
section
variable {P:Program}{c:Ctx}{Z Zb Zi:bu} {e e' e3:Env}{st bT oK B:St} {a a':Act} {w w':World}{R:Type}{r:R}{Q:Exit->Act->World->Prop}{o:Oper}{hn:qQ}
def bu.wd (Z:bu)(g:Nat):bu:={Z with In:=λb=>Z.In b\/b=g}
theorem SN {g:Nat}{m:Option Nat}{s:Nat}{seen:Array Nat}{k:Nat}(h:bO c Z e st a w)(hg:w.heap[g]? =some (.mapIter m s seen k)): (∀t cs,al st.fr t= .box cs->e.B t≠g)/\(∀f o,aE st.aM f=some o->(e.E f).ownBlock≠some g):=by
 refine ⟨λt cs ht he=> ?_,λf o ho he=> ?_⟩
 ·have hs:=h.slot t;rw [ht] at hs;obtain ⟨ob,h1,h2⟩:=hs.2.obj;rw [he,hg] at h1;cases h1;exact h2.elim
 ·obtain ⟨I,cells,_,_,h3,_⟩:=(h.gG f o ho).row;rcases h3.2 with ⟨h1,_⟩|⟨g',cap,cT,h1,_,h2,_⟩
  ·rw [h1] at he;cases he
  ·rw [h1] at he;simp only [abk,bB] at he;subst he;rw [hg] at h2;cases h2
theorem wA.wide {g:Nat}{m:Option Nat}{s:Nat}{seen:Array Nat}{k:Nat}(j:wA c Zb Zi e B hn a w)(hz:Zb.In g)(hg:w.heap[g]? =some (.mapIter m s seen k)):wA c Zb (Zi.wd g) e B hn a w:=by obtain ⟨h1,h2⟩:=SN j.sX hg;exact ⟨j.sX,λb hb=>hb.elim (j.sub b) (λhe=>by rw [he];exact hz),λb hb=> .inl (j.new b hb),j.cu,j.T,j.keys,λt cs ht hz=>hz.elim (j.box t cs ht) (h1 t cs ht),λf o b ho hb hz=>hz.elim (j.gG f o b ho hb) (λhe=>h2 f o ho (by rw [hb,he])),j.ae3,j.abL,j.ptr,j.men⟩
end
end Dn
/-
  A function's body in which a map is gone through, or a label stands. Conditions: none.
-/
namespace Dn
open Go
section
variable {P:Program}{c:Ctx}{R:Type}{r:R}
end
theorem acO {A B:Type}{g:B->A}{p q:Prop}[Decidable p][Decidable q]{X:Option A} {X':Option B}(e:p↔q)(h1:Sm g X X'):Sm g (cQ (decide p) X) (if q then X' else none):=by
 by_cases hp:p
 ·rw [if_pos (e.1 hp),decide_eq_true hp];exact h1
 ·rw [if_neg (λh=>hp (e.2 h)),decide_eq_false hp];rfl
theorem afQ {A B:Type}{g:B->A}{T:Option B}{x:List MV}{K:List MV->Option A}(h:Sm g (K x) T):Sm g (gCl (.clip x) K) T:=h
@[reducible] def ai6 {α : Type}(f : α -> MV)(l : List α) : MV := .clip (l.map f)
end Dn
/-
  Reasoning about functions on typed values. Conditions: none.
-/
namespace Dn
open Go
section
variable {α R:Type}
theorem v7 {l:List α}{k:Nat}(h:k<l.length)(K:α->Option R):ix l (k:Int) K=K l[k]:=by simp [ix,h]
theorem UQ {l:List α}(h:0<l.length)(K:α->Option R):ix l 0 K=K l[0]:=by simp [ix,h]
@[simp] theorem ape {A : Type}(x : Option A) : bd x (λa => some a) = x := by cases x <;> rfl
end
def dQ {A:Type}(x:Option A)(Q:A->Prop):Prop:= ∃a,x=some a/\Q a
section
variable {A B α σ ρ:Type}
theorem dQ.mk {a:A}{Q:A->Prop}(h:Q a):dQ (some a) Q:=⟨a,rfl,h⟩
theorem dQ.of {x:Option A}{a:A}{Q:A->Prop}(e:x=some a)(h:Q a):dQ x Q:=⟨a,e,h⟩
theorem dQ.bd {x:Option A}{K:A->Option B}{P:A->Prop}{Q:B->Prop}(h:dQ x P)(hk: ∀a,P a->dQ (K a) Q):dQ (bd x K) Q:=by obtain ⟨a,rfl,hp⟩:=h;exact hk a hp
theorem dQ.ite {c:Prop}[Decidable c]{x y:Option A}{Q:A->Prop}(h1:c->dQ x Q)(h2: ¬c->dQ y Q):dQ (if c then x else y) Q:=by
 split
 ·exact h1 ‹_›
 ·exact h2 ‹_›
theorem dQ.imp {x:Option A}{P Q:A->Prop}(h:dQ x P)(Sd: ∀a,P a->Q a):dQ x Q:=by obtain ⟨a,e,hp⟩:=h;exact ⟨a,e,Sd a hp⟩
theorem dQ.ix {l:List α}{k:Nat}{K:α->Option A}{Q:A->Prop}(h:k<l.length)(hk:dQ (K l[k]) Q):dQ (ix l (k:Int) K) Q:=by rw [v7 h];exact hk
theorem dQ.eq {x:Option A}{a:A}(h:dQ x (· =a)):x=some a:=by obtain ⟨b,e,rfl⟩:=h;exact e
variable {body:σ->Option (Sum σ ρ)}
theorem dQ.loop (I:σ->Prop) (μ:σ->Nat){Q:ρ->Prop}{s:σ}(hs:I s)(h: ∀s,I s->dQ (body s) λx=>match x with| .inl s'=>I s'/\μ s'<μ s| .inr r=>Q r):dQ (Loop body s) Q:=by
 refine ZX I μ Q (λs hs=> ?_) hs;obtain ⟨x,e,hx⟩:=h s hs;cases x with
 |inl s'=>exact .inl ⟨s',e,hx⟩
 |inr r=>exact .inr ⟨r,e,hx⟩
theorem dQ.count (S:Nat->σ)(n:Nat){Q:ρ->Prop}(P:Nat->Prop){s:σ}(e:s=S 0)(h0:P 0)(h: ∀k,k<n->P k->dQ (body (S k)) λx=>match x with| .inl s'=>s'=S (k+1)/\P (k+1)| .inr r=>Q r)(he:P n->dQ (body (S n)) λx=>match x with| .inl _=>False| .inr r=>Q r):dQ (Loop body s) Q:=by
 subst e;refine ZY S n Q P h0 (λk hk hp=> ?_) (λhp=> ?_)
 ·obtain ⟨x,e,hx⟩:=h k hk hp;cases x with
  |inl s'=>obtain ⟨rfl,hx⟩:=hx;exact .inl ⟨e,hx⟩
  |inr r=>exact .inr ⟨r,e,hx⟩
 ·obtain ⟨x,e,hx⟩:=he hp;cases x with
  |inl s'=>exact hx.elim
  |inr r=>exact ⟨r,e,hx⟩
end
theorem wrap64 {x:Int}(h1: -9223372036854775808<=x)(h2:x<=9223372036854775807):aaU .i64 x=x:=acG h1 h2
end Dn
/-
  Runs with a bound on their rounds. Conditions: none.
-/
namespace Dn
open Go
def jW {σ R:Type}(n:Nat)(body:σ->Option (Sum σ R))(s:σ):Option R:=iter body n s
def Le {A:Type}(x y:Option A):Prop:= ∀a,x=some a->y=some a
section
variable {A B σ ρ α:Type}
theorem Le.rfl' (x:Option A):Le x x:=λ_ h=>h
theorem Le.bd {x x':Option A} {K K':A->Option B}(h:Le x x')(hk: ∀a,Le (K a) (K' a)):Le (bd x K) (bd x' K'):=by
 intro b hb;cases hx:x with
 |none=>rw [hx] at hb;cases hb
 |some a=>rw [hx] at hb;rw [h a hx];exact hk a b hb
theorem Le.ite {c:Prop}[Decidable c] {x y x' y':Option A}(h1:Le x x')(h2:Le y y'):Le (if c then x else y) (if c then x' else y'):=by
 split
 ·exact h1
 ·exact h2
theorem Le.ix {l:List α}{i:Int} {K K':α->Option A}(h: ∀a,Le (K a) (K' a)):Le (ix l i K) (ix l i K'):=by
 unfold Dn.ix;split
 ·exact h _
 ·exact Le.rfl' _
theorem Le.iter {K K':σ->Option (Sum σ ρ)}(h: ∀s,Le (K s) (K' s))(n:Nat)(s:σ):Le (iter K n s) (iter K' n s):=by
 induction n generalizing s with
 |zero=>exact Le.rfl' _
 |succ n ih=>
  intro r hr;simp only [Dn.iter] at hr⊢;cases hk:K s with
  |none=>rw [hk] at hr;cases hr
  |some x=>
   rw [hk] at hr;rw [h s x hk];cases x with
   |inl s'=>exact ih s' r hr
   |inr r'=>exact hr
theorem Le.loop {n:Nat} {K K':σ->Option (Sum σ ρ)}{s:σ}(h: ∀s,Le (K s) (K' s)):Le (jW n K s) (Loop K' s):=λr hr=>j9 (Le.iter h n s r hr)
theorem Le.sum {P Q:Type}{x:P⊕Q} {f f':P->Option A} {g g':Q->Option A}(h1: ∀p,Le (f p) (f' p))(h2: ∀q,Le (g q) (g' q)):Le (match x with| .inl p=>f p| .inr q=>g q) (match x with| .inl p=>f' p| .inr q=>g' q):=by
 cases x
 ·exact h1 _
 ·exact h2 _
end
theorem Le.bF {α:Type}{p q:α->Option Bool}(h: ∀x,Le (p x) (q x)): ∀L:List α,Le (Z5 p L) (Z5 q L)
 |[]=>Le.rfl' _
 |x::xs=>Le.bd (h x) λb=>Le.bd (Le.bF h xs) λ_=>Le.rfl' _
theorem Le.bG {α σ:Type}{p q:α->σ->Option (Bool×σ)}(h: ∀x s,Le (p x s) (q x s)): ∀(s:σ) (L:List α),Le (Ec p s L) (Ec q s L)
 |s,[]=>Le.rfl' _
 |s,x::xs=>Le.bd (h x s) λb=>Le.bd (Le.bG h b.2 xs) λ_=>Le.rfl' _
end Dn
/-
  A state in which variables of packages have given data. Conditions: none.
-/
namespace Dn
open Go
def cellsD:Nat->DataW Unit->List Value
 |n+1,.agg ds=>ds.flatMap (cellsD n)
 |_,.lit (.int k v)=>[.int k v]
 |_,_=>[]
def WR (cs:Array Value):Obj->Obj
 | .cells _ t z=> .cells cs t z
 |o=>o
def KP (P:Program):List (String×DataW Unit)->Array Obj->Array Obj
 |[],h=>h
 |x::r,h=>match P.globalNamed x.1 with
  |some g=>KP P r (h.modify g (WR (cellsD 4 x.2).toArray))
  |none=>KP P r h
noncomputable def aj6 (P:Program)(l:List (String×DataW Unit))(os:Os)(args:Array Value):World:={World.holding P os ⟨#[],args,[]⟩ with heap:=KP P l (World.holding P os ⟨#[],args,[]⟩).heap}
theorem Rc {a b:Bool}(h1:a=true)(h2:b=true):(a&&b)=true:=by rw [h1,h2];rfl
def BZ:List Char:=[99,117,116].map aeK
theorem aj7:(BZ== "gc".toList)=false:=by kernel_rfl
theorem adh:(BZ== "spec".toList)=false:=by kernel_rfl
theorem agf:(BZ== "cut".toList)=true:=by kernel_rfl
theorem Ts:(BZ== "carried".toList)=false:=by kernel_rfl
section
variable {P:Program}{L:List (List Char)}{ns:List Nat}
theorem NB (h:P.initOrder=String.ofList (ns.map aeK)):P.initOrder.toList=ns.map aeK:=by rw [h,String.toList_ofList]
theorem adi {h s:List Char}(e:wordsSigns P.initOrder.toList=h::s::L)(h1:isSumSigns s=true)(h2:(h== "harness".toList)=true):P.mainIs=some (true,s):=by unfold Program.mainIs;rw [e];simp only [h1,h2,aeM,AI,if_false,if_true]
theorem adj (e:behindMainWord (wordsSigns P.initOrder.toList)=BZ::L):P.make=some .cut:=by unfold Program.make;rw [e];simp only [aj7,adh,agf,Bool.or_false,AI,if_false,Bool.true_or,if_true]
theorem agh (e:behindMainWord (wordsSigns P.initOrder.toList)=BZ::L)(h1:(stripLifts liftWords (BZ::L)).1=[])(h2:((stripLifts liftWords (BZ::L)).2.head? ==some "cut".toList)=true)
 (h3:P.doorFits []=true) (h4:P.laysLater=false) (h5:P.bearsReflect=false):P.mayEnter=true:=by
 unfold Program.mayEnter;rw [e];simp only [h1,h2,h3,h4,h5,List.contains_nil,ad0,adS,aeV,Bool.and_true,Bool.or_true]
theorem aaP (e:behindMainWord (wordsSigns P.initOrder.toList)=BZ::L)(h1:(stripLifts liftWords (BZ::L)).1=[]):P.liftsFinal=false:=by
 unfold Program.liftsFinal Program.headLifts;rw [e]
 have h0:((BZ::L).head? ==some "carried".toList)=false:=by simp only [List.head?_cons];have:=Ts;simpa using this
 simp only [h0,h1,Bool.false_and,ad0];split<;>rfl
theorem adk {c:OpenClaim}(h:P.make=some .cut)(hc:c.make= .cut):(P.make==some c.make)=true:=by rw [h,hc];rfl
theorem aaQ {c:OpenClaim}(h:P.liftsFinal=false)(hc:c.lifted=false):(c.lifted==P.liftsFinal)=true:=by rw [h,hc];rfl
end
end Dn
