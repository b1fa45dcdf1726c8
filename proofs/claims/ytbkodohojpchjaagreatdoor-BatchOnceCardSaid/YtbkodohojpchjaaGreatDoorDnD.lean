import Derived.Test.YtbkodohojpchjaaGreatDoorDnC
import Derived.Lib.SlTrimSet
import Derived.Lib.Bytealg
import Derived.Shelf.Strings.Split
import Derived.Shelf.Strings.SlTrimAscii
import Derived.Shelf.Strings.Runes
import Derived.Lib.IndexBytes
import Derived.Test.YtbkodohojpchjaaGreatDoorDnB
import Derived.Maps.RangeRun
import Derived.ScopeJumps
import Derived.LaidLaws
import Derived.Deep.DeepLaidRun
import Derived.Handed
import Derived.JoinedOf
import Derived.KernelRfl
/- How code runs. Conditions: none. -/
set_option linter.unusedSimpArgs false
set_option linter.unusedVariables false
open Option.some renaming injEq→bN,inj→agr
open List renaming range→sh,length_take→aaG,getElem?_eq_getElem→abL,all_eq_true→abN,length_append→abP,getElem?_drop→abQ,getElem?_take→abT,drop_of_length_le→abV,getElem_mem→ab2,mem_cons→ab6,eq_nil_of_length_eq_zero→ab7,mem_iff_getElem→ach,drop_drop→acO,getElem?_eq_some_iff→acX,getElem?_map→acY,getElem?_take_of_lt→ac5,length_drop→ac9,length_map→adg,getElem?_eq_none→adv,size_toArray→ae5,append_assoc→ae6,ext_getElem?→ae7,any_eq_true→afe,take_take→afq,take_left→afr,map_cons→afA,take→afM,map_map→agc
open Bool renaming false_eq_true→AI,and_eq_true→abM,eq_false_iff→abZ,not_false→adX,false_or→aeW,not_eq_true'→afc,not_true→afz,true_and→afB
open Nat renaming le_of_ble_eq_true→AS,ble→IN,le_refl→OF,succ_mul→abR,zero_le→abU,eq_of_beq_eq_true→ab1,zero_add→acu,le_trans→acv,lt_of_lt_of_le→acC,beq→ade,ble_eq_true_of_le→adn,mul_le_mul_right→adx,add_comm→agb,add_mul→agd
open Go.IntKind renaming wrap→AT,bits→abY,wrap_i64→adb
open Go.Next renaming value→By
open Go.Result renaming ok→BY
open Go.Value renaming pointer→IT,bool→aa6,ownBlock→abW,string→acw,slice→afk,cells→age,int→agp
open Array renaming getElem?_eq_some_iff→No,length_toList→abS,replicate→adf,getElem?_toList→adh,getElem?_append→adk,toList_inj→afj
open Go.World renaming block_lt_of_cell?→aaW,cell?_of_block→adw
open Go.Lib renaming countB→abK,index→abO,setCells→ab0,size_eq→ab8,splitB→acU,indexByte→afF,trimS→afP
open Go.Instr renaming loadAt→abX,sureAddr→afw
open ByteArray renaming empty→aci
open Go.Proofs renaming enters_of→aco
open Prod.mk renaming injEq→ac3
open Go.Deferred renaming ofValue→ada
open Go.Proofs.Any renaming strings_ContainsRune_ascii→adr
open Go.Code renaming region→adG
open Int renaming toNat→aec,fdiv→afx
open Go.Proofs.Lays renaming n146→aem,n160→agn,n151→ago
open Go.Region renaming wanted→ae3,ready→ae8
open Option renaming map_some→afm
open Char renaming ofNat→afy
open Go.Addr renaming add_mid→afX
open Go.Value.pointer renaming injEq→agf
namespace Dn
open Go
theorem ox {P:Program}{f:Nat}{fn:Func}{b:Code}{args:Array Value}{w:World}{R:Value->World->Prop}(eD:P.funcs[f]? =some fn)(zV:(fn.name== "runtime.NumGoroutine")=false)(je:fn.body=some b)
 (h:Calls P f args w λe W=> ∃v,e= .returned v/\R v W):dR P f args w R:=by
 have bF:(callFunc f args).run P w= .ok (.enter f args) w:=by
  have Hi: ¬fn.name= "runtime.NumGoroutine" :=by simpa using zV
  simp [callFunc,eD,Hi,je]
 unfold dR;rw [bF];exact h
def H6 (r:Nat->Nat)(o:Nat->Oper):Code:= .seq (.region (r 0) #[o 0] false) (.seq (.region (r 1) #[o 1,o 2,o 3,o 4] false) (.seq (.seq (.region (r 2) #[o 5,o 6] false) (.cond (.tmp 12) (.seq (.region (r 3) #[o 7,o 8] false) .ret) .skip)) (.seq (.seq (.region (r 4) #[o 9,o 10,o 11] false) (.block 0 (.loop (.seq (.seq (.region (r 5) #[o 12,o 13,o 14,o 15] false) (.cond (.tmp 19) .skip (.exit 0))) (.seq (.block 1 (.seq (.region (r 6) #[o 16,o 17,o 18,o 19,o 20,o 21] false) (.seq (.region (r 7) #[o 22,o 23,o 24,o 25] false) (.cond (.tmp 29) (.seq (.region (r 8) #[o 26,o 27,o 28,o 29,o 30] false) (.region (r 9) #[o 31,o 32,o 33] false)) .skip)))) (.region (r 10) #[o 34,o 35,o 36] false)))))) (.seq (.region (r 11) #[o 37,o 38,o 39,o 40] false) (.seq (.region (r 12) #[o 41,o 42,o 43,o 44] false) .ret)))))
structure ado (t el ti tb fu fi:Nat) (o:Nat->Oper):Prop where
 h0:ak (o 0) 4 (.assign (.const (.slice none 0 0)))
 h1:ak (o 1) 8 (.move (.tmp 0))
 h2:ak (o 2) 9 (.move (.tmp 1))
 h3:ak (o 3) 10 (.call {callee:= .value (.func fi),args:= #[.tmp 8,.tmp 9],argTypes:= #[t,fu]})
 h4:ak (o 4) 5 (.assign (.tmp 10))
 h5:ak (o 5) 11 (.move (.tmp 5))
 h6:ak (o 6) 12 (.binOp .eql ti (.tmp 11) (.const (.int .i64 (-1))) ti)
 h7:ak (o 7) 13 (.move (.tmp 0))
 h8:ak (o 8) 4 (.assign (.tmp 13))
 h9:ak (o 9) 14 (.move (.tmp 5))
 B9:ak (o 10) 15 (.binOp .add ti (.tmp 14) (.const (.int .i64 1)) ti)
 FC:ak (o 11) 6 (.assign (.tmp 15))
 FD:ak (o 12) 16 (.move (.tmp 6))
 FE:ak (o 13) 17 (.move (.tmp 0))
 FF:ak (o 14) 18 (.call {callee:= .builtin .len,args:= #[.tmp 17],argTypes:= #[t]})
 FG:ak (o 15) 19 (.binOp .lss ti (.tmp 16) (.tmp 18) ti)
 FH:ak (o 16) 22 (.move (.tmp 0))
 Ko:ak (o 17) 23 (.move (.tmp 6))
 NT:ak (o 18) 24 (.indexAddr t (.tmp 22) (.tmp 23))
 OR:ak (o 19) 25 (.load el (.tmp 24))
 OS:ak (o 20) 7 (.alloc el)
 L6:gq (o 21) (.store el (.tmp 7) (.tmp 25))
 L7:ak (o 22) 26 (.move (.tmp 1))
 L8:ak (o 23) 27 (.load el (.tmp 7))
 L9:ak (o 24) 28 (.call {callee:= .value (.tmp 26),args:= #[.tmp 27],argTypes:= #[el]})
 Ma:ak (o 25) 29 (.unOp .not tb (.tmp 28))
 PZ:ak (o 26) 30 (.move (.tmp 0))
 Sh:ak (o 27) 31 (.move (.tmp 5))
 Si:ak (o 28) 32 (.load el (.tmp 7))
 Sj:ak (o 29) 33 (.indexAddr t (.tmp 30) (.tmp 31))
 P0:gq (o 30) (.store el (.tmp 33) (.tmp 32))
 Q9:ak (o 31) 34 (.move (.tmp 5))
 Ra:ak (o 32) 35 (.binOp .add ti (.tmp 34) (.const (.int .i64 1)) ti)
 Rb:ak (o 33) 5 (.assign (.tmp 35))
 Sk:ak (o 34) 20 (.move (.tmp 6))
 Ub:ak (o 35) 21 (.binOp .add ti (.tmp 20) (.const (.int .i64 1)) ti)
 VY:ak (o 36) 6 (.assign (.tmp 21))
 Uc:ak (o 37) 36 (.move (.tmp 0))
 VZ:ak (o 38) 37 (.move (.tmp 5))
 h39:ak (o 39) 38 (.slice t (.tmp 36) (some (.tmp 37)) none none)
 h40:gq (o 40) (.call {callee:= .builtin .clear,args:= #[.tmp 38],argTypes:= #[t]})
 h41:ak (o 41) 39 (.move (.tmp 0))
 h42:ak (o 42) 40 (.move (.tmp 5))
 h43:ak (o 43) 41 (.slice t (.tmp 39) none (some (.tmp 40)) none)
 h44:ak (o 44) 4 (.assign (.tmp 41))
structure ZW (P:Program) (f t ti tb fu fi el:Nat) (fn:Func) (r:Nat->Nat) (o:Nat->Oper):Prop where
 pos:P.funcs[f]? =some fn
 name:(fn.name== "runtime.NumGoroutine")=false
 tmps:fn.ntmps=42
 res:fn.results= #[.tmp 4]
 body:fn.body=some (H6 r o)
 ops:ado t el ti tb fu fi o
 xb:P.underlying t=some (.slice el)
section
variable {P:Program}{c:Ctx}{f fi t ti tb fu el:Nat}{fn fni:Func}{r ri:Nat->Nat}{o oi:Nat->Oper}{E:TI}{cp g0 g:Nat}{ad:Option Addr}{ob:Option Nat}{w W W2:World}{lb:Array Value}{S:Type}{Inv:S->(Nat->Prop)->Ph->World->Prop}{step:S->MV->Option (Bool×S)}{Z0 Z:Nat->Prop} {φ0 φ:Ph}{s:S}
theorem Bk.move (hp:xA P c g lb Inv step)(hW:Bk c ob Inv Z0 φ0 w s Z φ W)(pJ:W.heap.size<=W2.heap.size)(iM: ∀b,b<W.heap.size->ob≠some b->W2.heap[b]? =W.heap[b]?)(uT:Rest W W2)(hnz: ∀b,ob=some b-> ¬Z b): Bk c ob Inv Z0 φ0 w s (λb=>(Z b/\b<W.heap.size)\/W2.heap.size<=b) φ W2:=by
 have hws:=hW.tr.size;refine ⟨hp.mono (hp.frame hW.inv pJ λb hz hb=>iM b hb (λe=>hnz b e hz)) λb hb=> .inl hb,λb hb=> .inr hb,λb hb=> ?_,λb off v hv=> ?_,?_,hW.free⟩
 ·rcases hb with hb|hb
  ·exact hW.sub b hb.1
  ·exact .inr (by omega)
 ·have h1:=hW.kZ b off v hv;have cI:=aaW W _ h1;have cR:ob≠some b:=by intro e;rw [hW.free b off e] at hv;cases hv
  rw [adw (iM b cI cR)];exact h1
 ·refine hW.tr.trans ⟨.refl _,λb hb cI=> ?_,λ_ _ _=>rfl,pJ,uT⟩;exact iM b cI (λe=>hb (.inr e))
structure akx (c:Ctx) (sz n cp:Nat) (cells:List Value) (cY:Array Value) (φ:Ph) (i j:Nat) (ys:List MV):Prop where
 size:cY.size=cp *sz
 done:aX c.key φ sz (cY.toList.take (i *sz)) ys
 len:ys.length=i
 rest:(cY.toList.take (n *sz)).drop (j *sz)=cells.drop (j *sz)
def adp (c:Ctx)(ob:Option Nat){S:Type}(Inv:S->(Nat->Prop)->Ph->World->Prop)(step:S->MV->Option (Bool×S))(Z0:Nat->Prop) (φ0:Ph)(w:World)(xs ys:List MV) (s0 s':S)(v:Value)(W:World):Prop:=∃Z φ,(∀b,ob=some b->W.heap[b]? =w.heap[b]?)/\((v= .int .i64 (-1)/\ys=xs/\Bk c ob Inv Z0 φ0 w s' Z φ W)\/ ∃k,∃hk:k<xs.length,∃sk,v= .int .i64 (k:Int)/\nm step s0 (xs.take (k+1))=some (xs.take k,sk)/\Bk c ob Inv Z0 φ0 w sk Z φ W)
theorem P5 (hf:ZW P f t ti tb fu fi el fn r o)(YM:ZS P fi t ti el fni ri oi)(hp:xA P c g lb Inv step)(hT:ia P c.ti)(hE:c.tv el=some E)(dK:E.st=true)(eD:0<E.size){xs:List MV}{cells:List Value}{cY:Array Value} {s0 s':S}{ys:List MV}(HU: ∀x∈xs,∃ms,x= .agg ms)(Pd:0<xs.length->ad=some ⟨g0,0,none⟩/\ob=some g0/\w.heap[g0]? =some (.cells cY el (0,0))/\cY.toList.take (xs.length *E.size)=cells/\xs.length<=cp/\cY.size=cp *E.size)(XF: ∀b,ob=some b-> ¬Z0 b/\b<w.heap.size/\ ∀off,φ0 b off=none)(ib:aX c.key φ0 E.size cells xs)(akv:xs.length<2^63)(hinv:Inv s0 Z0 φ0 w)(jC: ∀b,w.heap.size<=b->Z0 b)(iQ:oS φ0 w)(hd:nm step s0 xs=some (ys,s')): Calls P f #[.slice ad xs.length cp,.func (.func g) #[] lb] w λe W=> ∃v,e= .returned v/\ ∃Z φ,Bk c ob Inv Z0 φ0 w s' Z φ W/\ ((v= .slice ad xs.length cp/\ys=xs/\ ∀b,ob=some b->W.heap[b]? =w.heap[b]?)\/ (0<xs.length/\v= .slice (some ⟨g0,0,none⟩) ys.length cp/\ ∃mZ,W.heap[g0]? =some (.cells mZ el (0,0))/\mZ.size=cp *E.size/\aX c.key φ E.size (mZ.toList.take (ys.length *E.size)) ys)):=by
 obtain ⟨lN,om⟩:=bj hE;obtain ⟨ie,z,pH,vE,XB,ZL,Kn⟩:=lc (hT _ E lN) om;obtain ⟨ie2,z2,ZR,Yf,hzr⟩:=Ca hE hT;rw [pH] at ZR;cases ZR;rw [ZL] at Yf;cases Yf;have hz1: ∀v∈z.cells.toList,v.oneCell'=true:=(hzr (na c.key λ_ _=>none)).cells;have aky:dR P fi #[.slice ad xs.length cp,.func (.func g) #[] lb] w (adp c ob Inv step Z0 φ0 w xs ys s0 s'):=by
  refine ox YM.pos YM.name YM.body ((ZT YM hp hT hE dK HU (λh=>⟨(Pd h).1,(Pd h).2.1,(Pd h).2.2.1,(Pd h).2.2.2.1⟩) XF ib akv hinv jC iQ hd).mono ?_);rintro e W ⟨Z,φ,h1,h2⟩;rcases h2 with ⟨rfl,h3,h4⟩|⟨k,hk,sk,rfl,h3,h4⟩
  ·exact ⟨_,rfl,Z,φ,h1,.inl ⟨rfl,h3,h4⟩⟩
  ·exact ⟨_,rfl,Z,φ,h1,.inr ⟨k,hk,sk,rfl,h3,h4⟩⟩
 refine calls_of_wp hf.pos hf.body ?_;rw [hf.tmps];generalize P4:(λ(e:Ending) (W:World)=> ∃v,e= .returned v/\ ∃Z φ,Bk c ob Inv Z0 φ0 w s' Z φ W/\ ((v= .slice ad xs.length cp/\ys=xs/\ ∀b,ob=some b->W.heap[b]? =w.heap[b]?)\/ (0<xs.length/\v= .slice (some ⟨g0,0,none⟩) ys.length cp/\ ∃mZ,W.heap[g0]? =some (.cells mZ el (0,0))/\mZ.size=cp *E.size/\aX c.key φ E.size (mZ.toList.take (ys.length *E.size)) ys)))=ahf;have key: ∀a:Act,Tm a 42 (rl (rl (λ_=>undef) 0 (.slice ad xs.length cp)) 1 (.func (.func g) #[] lb))->(H6 r o).wp P (bodyPost P fn ahf) a w:=by
  intro a ao;unfold H6;refine wp_seq (wp_region ?_);rw [show sh (#[o 0]:Array Oper).size=[0] from rfl];refine ao.step (v:= .slice none 0 0) rfl hf.ops.h0 (by decide) (bP hf.ops.h0 _) (λa ao=> ?_);refine wp_seq (wp_region ?_);rw [show sh (#[o 1,o 2,o 3,o 4]:Array Oper).size=[0,1,2,3] from rfl];refine ao.step (v:= .slice ad xs.length cp) rfl hf.ops.h1 (by decide) (aA hf.ops.h1 _) (λa ao=> ?_);refine ao.step (v:= .func (.func g) #[] lb) rfl hf.ops.h2 (by decide) (aA hf.ops.h2 _) (λa ao=> ?_);refine ao.call rfl hf.ops.h3 (by decide) (adm hf.ops.h3 rfl rfl rfl _) aky ?_;clear aky;rintro v W1 a1 ⟨Z,φ,Bj,pK⟩ akz;clear ao;refine akz.step (v:=v) rfl hf.ops.h4 (by decide) (bP hf.ops.h4 _) (λa2 ZN=> ?_);clear akz;refine wp_seq (wp_seq (wp_region ?_));rw [show sh (#[o 5,o 6]:Array Oper).size=[0,1] from rfl];refine ZN.step (v:=v) rfl hf.ops.h5 (by decide) (aA hf.ops.h5 _) (λa3 ahi=> ?_);clear ZN;rcases pK with ⟨rfl,rfl,hW⟩|⟨k,hk,sk,rfl,hdk,hW⟩
  ·refine ahi.step (v:= .bool (decide ((-1:Int)= -1))) rfl hf.ops.h6 (by decide) (nG hf.ops.h6 rfl rfl _) (λa ao=> ?_);refine ao.cond (b:=true) (by show aa6 (decide ((-1:Int)= -1))=_;rfl) ?_;simp only [if_true];refine wp_seq (wp_region ?_);rw [show sh (#[o 7,o 8]:Array Oper).size=[0,1] from rfl];refine ao.step (v:= .slice ad ys.length cp) rfl hf.ops.h7 (by decide) (aA hf.ops.h7 _) (λa ao=> ?_);refine ao.step (v:= .slice ad ys.length cp) rfl hf.ops.h8 (by decide) (bP hf.ops.h8 _) (λa ao=> ?_);refine wp_ret ?_;refine N1 hf.res ao (v:= .slice ad ys.length cp) rfl ?_;rw [<-P4];exact ⟨_,rfl,Z,φ,hW,.inl ⟨rfl,rfl,Bj⟩⟩
  ·refine ahi.step (v:= .bool (decide ((k:Int)= -1))) rfl hf.ops.h6 (by decide) (nG hf.ops.h6 rfl rfl _) (λa ao=> ?_);refine ao.cond (b:=false) (by show aa6 (decide ((k:Int)= -1))=_;rw [decide_eq_false (by omega)]) ?_;simp only [AI,if_false];refine wp_skip ?_;refine wp_seq (wp_seq (wp_region ?_));rw [show sh (#[o 9,o 10,o 11]:Array Oper).size=[0,1,2] from rfl];refine ao.step (v:= .int .i64 (k:Int)) rfl hf.ops.h9 (by decide) (aA hf.ops.h9 _) (λa ao=> ?_);refine ao.step (v:= .int .i64 ((k+1:Nat):Int)) rfl hf.ops.B9 (by decide) (jU (q:=1) hf.ops.B9 rfl rfl (by omega) _) (λa ao=> ?_);refine ao.step (v:= .int .i64 ((k+1:Nat):Int)) rfl hf.ops.FC (by decide) (bP hf.ops.FC _) (λa4 akA=> ?_);clear ahi ao;obtain ⟨ahg,Vx,cz,bq,akB,aoW⟩:=Pd (by omega);have OP:=XF g0 Vx;have akC: ∀b,ob=some b->b=g0:=λb hb=>by rw [Vx] at hb;exact (agr hb).symm
   have hmul: ∀{a b:Nat},a<=b->a *E.size<=b *E.size:=λh=>adx _ h;refine wp_block (wp_loop (λa W=> ∃σ,Tm a 42 σ/\σ 0= .slice (some ⟨g0,0,none⟩) xs.length cp/\σ 1= .func (.func g) #[] lb/\ ∃i j:Nat,i<j/\j<=xs.length/\σ 5= .int .i64 (i:Int)/\σ 6= .int .i64 (j:Int)/\ ∃mZ sj Z φ yj,W.heap[g0]? =some (.cells mZ el (0,0))/\nm step s0 (xs.take j)=some (yj,sj)/\Bk c ob Inv Z0 φ0 w sj Z φ W/\akx c E.size xs.length cp cells mZ φ i j yj) (λa W=>match a.tmps.getD 6 undef with| .int _ k=>xs.length-k.toNat|_=>0) ?_ ?_)
   ·refine ⟨_,akA,by show afk ad xs.length cp=_;rw [ahg],rfl,k,k+1,by omega,by omega,rfl,rfl,cY,sk,Z,φ,xs.take k,(Bj g0 Vx).trans cz,hdk,hW,⟨aoW,?_,by rw [aaG];omega,by rw [bq]⟩⟩;have h1:=(ib.mono hW.tr.ph).take k;rw [<-bq,afq] at h1;have h2:Nat.min (k *E.size) (xs.length *E.size)=k *E.size:=Nat.min_eq_left (hmul (by omega));rw [show min (k *E.size) (xs.length *E.size)=k *E.size from h2] at h1;exact h1
   ·clear Bj hdk hW akA cz;rintro a W ⟨σ,ao,h0,h1,i,j,Tw,hjn,h5,h6,mZ,sj,Z',φ',yj,Bj,hdj,hW,hR⟩;have hm6:(match a.tmps.getD 6 undef with| .int _ k=>xs.length-k.toNat|_=>0)=xs.length-j:=by rw [ao.get 6,h6];simp
    rw [hm6];clear hm6;have hnz: ∀b,ob=some b-> ¬Z' b:=λb hb hz=>by
     have:=akC b hb;subst this;rcases hW.sub _ hz with h|h
     ·exact OP.1 h
     ·have:=OP.2.1;omega
    refine wp_seq (wp_seq (wp_region ?_));rw [show sh (#[o 12,o 13,o 14,o 15]:Array Oper).size=[0,1,2,3] from rfl];refine ao.step (v:= .int .i64 (j:Int)) rfl hf.ops.FD (by decide) ((aA hf.ops.FD _).trans (by show BY (By (σ 6)) W=_;rw [h6])) (λa ao=> ?_);refine ao.step (v:= .slice (some ⟨g0,0,none⟩) xs.length cp) rfl hf.ops.FE (by decide) ((aA hf.ops.FE _).trans (by show BY (By (σ 0)) W=_;rw [h0])) (λa ao=> ?_);refine ao.step (v:= .int .i64 ((xs.length:Nat):Int)) rfl hf.ops.FF (by decide) (mC hf.ops.FF hf.xb rfl _) (λa ao=> ?_);refine ao.step (v:= .bool (decide ((j:Int)<(xs.length:Int)))) rfl hf.ops.FG (by decide) (H4 hf.ops.FG rfl rfl _) (λa ao=> ?_);by_cases cI:j<xs.length;rotate_left
    ·
     refine ao.cond (b:=false) (by show aa6 (decide ((j:Int)<(xs.length:Int)))=_;rw [decide_eq_false (by omega)]) ?_;simp only [AI,if_false];refine wp_exit ?_;have aoX:j=xs.length:=by omega
     subst aoX;rw [List.take_length,hd] at hdj;simp only [bN,ac3] at hdj;obtain ⟨rfl,rfl⟩:=hdj;have hlen:=hR.len;have pJ:=hR.size;have yU:i *E.size+(xs.length-i) *E.size<=mZ.size:=by rw [<-agd,pJ];exact hmul (by omega)
     have rX:i *E.size<=xs.length *E.size:=hmul (by omega);have Pe:xs.length *E.size<=cp *E.size:=hmul akB;obtain ⟨zs,hzl,akD⟩:=z6 (P:=P) (w:=W) (t:=t) (ty:=(o 40).type) (g:=g0) (off:=i *E.size) (n:=xs.length-i) (c:=cp-i) hf.xb pH ZL Kn hz1 Bj (by omega) yU;have hgl:g0<W.heap.size:=acC OP.2.1 hW.tr.size;obtain ⟨W3,Ui⟩: ∃W3,W3=W.setRow g0 (mZ.toList.take (i *E.size)++zs++mZ.toList.drop (i *E.size+zs.length)).toArray:=⟨_,rfl⟩
     rw [<-Ui] at akD;have BH:=hW.move hp (W2:=W3) (by rw [Ui];simp [World.setRow]) (λb _ cR=>by rw [Ui];exact setRow_other _ _ _ _ (λe=>cR (by rw [Vx,e]))) (by rw [Ui];exact .setRow _ _ _) hnz;show Code.wp P (Code.seq _ _) _ a W;refine wp_seq (wp_region ?_);rw [show sh (#[o 37,o 38,o 39,o 40]:Array Oper).size=[0,1,2,3] from rfl];refine ao.step (v:= .slice (some ⟨g0,0,none⟩) xs.length cp) rfl hf.ops.Uc (by decide) ((aA hf.ops.Uc _).trans (by show BY (By (σ 0)) W=_;rw [h0])) (λa ao=> ?_);refine ao.step (v:= .int .i64 (i:Int)) rfl hf.ops.VZ (by decide) ((aA hf.ops.VZ _).trans (by show BY (By (σ 5)) W=_;rw [h5])) (λa ao=> ?_);refine ao.step rfl hf.ops.h39 (by decide) (ov hf.ops.h39 hf.xb pH vE rfl rfl (by omega) (by omega) _) (λa ao=> ?_);refine ao.afD (v:= .tuple #[]) rfl hf.ops.h40 (Ud hf.ops.h40 rfl akD) ?_;refine wp_seq (wp_region ?_);rw [show sh (#[o 41,o 42,o 43,o 44]:Array Oper).size=[0,1,2,3] from rfl];refine ao.step (v:= .slice (some ⟨g0,0,none⟩) xs.length cp) rfl hf.ops.h41 (by decide) ((aA hf.ops.h41 _).trans (by show BY (By (σ 0)) W3=_;rw [h0])) (λa ao=> ?_);refine ao.step (v:= .int .i64 (i:Int)) rfl hf.ops.h42 (by decide) ((aA hf.ops.h42 _).trans (by show BY (By (σ 5)) W3=_;rw [h5])) (λa ao=> ?_);refine ao.step (v:= .slice (some ⟨g0,0,none⟩) i cp) rfl hf.ops.h43 (by decide) (Da hf.ops.h43 hf.xb pH vE rfl rfl (by omega) _) (λa ao=> ?_);refine ao.step (v:= .slice (some ⟨g0,0,none⟩) i cp) rfl hf.ops.h44 (by decide) (bP hf.ops.h44 _) (λa ao=> ?_);refine wp_ret ?_;refine N1 hf.res ao (v:= .slice (some ⟨g0,0,none⟩) i cp) rfl ?_;rw [<-P4];have oq:mZ.toList.length=cp *E.size:=by rw [abS,pJ]
     refine ⟨_,rfl,_,φ',BH,.inr ⟨by omega,by rw [hlen],_,by rw [Ui];exact gV _ Bj,?_,?_⟩⟩
     ·simp only [ae5,abP,aaG,ac9,oq,hzl];have:(xs.length-i) *E.size+i *E.size=xs.length *E.size:=by rw [<-agd];congr 1;omega
      omega
     ·rw [hlen,ae6,List.take_append_of_le_length (by rw [aaG,oq];omega),afq,Nat.min_self];exact hR.done
    ·refine ao.cond (b:=true) (by show aa6 (decide ((j:Int)<(xs.length:Int)))=_;rw [decide_eq_true (by omega)]) ?_;simp only [if_true];refine wp_skip ?_;obtain ⟨yk,sk',b,sk2,e1,e2,e3⟩:=T3 hd cI;rw [hdj] at e1;simp only [bN,ac3] at e1;obtain ⟨rfl,rfl⟩:=e1;have ZU:=ib.mono hW.tr.ph;obtain ⟨hl,eK⟩:=P3 ZU cI;obtain ⟨Mf,Gd⟩: ∃Mf,Mf=(cells.drop (j *E.size)).take E.size:=⟨_,rfl⟩
     rw [<-Gd] at hl eK;have oq:mZ.toList.length=cp *E.size:=by rw [abS,hR.size]
     have hj1:j *E.size+E.size<=xs.length *E.size:=by rw [<-abR];exact hmul cI
     have Pe:xs.length *E.size<=cp *E.size:=hmul akB;have uP:i *E.size+E.size<=j *E.size:=by rw [<-abR];exact hmul Tw
     have ahh:W.rangeAt g0 (j *E.size) Mf:=by
      intro q v hq;have hql:q<E.size:=by have:=(acX.1 hq).1;omega
      rw [cell_of Bj,<-adh];rw [Gd,ac5 hql,<-hR.rest,abQ,ac5 (by omega)] at hq;exact hq
     have jd: ∀u∈Mf,u.oneCell'=true:=λu hu=>ib.zN u (by rw [Gd] at hu;exact List.mem_of_mem_drop (List.mem_of_mem_take hu));obtain ⟨ms,NA⟩:=HU _ (ab2 cI);have Sd:di c.key φ' (.agg Mf.toArray) xs[j]:=H5 eK NA;have hsc:(Value.agg Mf.toArray).cells.toList=Mf:=by simp [age]
     refine wp_seq (wp_block ?_);refine wp_seq (wp_region ?_);rw [show sh (#[o 16,o 17,o 18,o 19,o 20,o 21]:Array Oper).size=[0,1,2,3,4,5] from rfl];refine ao.step (v:= .slice (some ⟨g0,0,none⟩) xs.length cp) rfl hf.ops.FH (by decide) ((aA hf.ops.FH _).trans (by show BY (By (σ 0)) W=_;rw [h0])) (λa ao=> ?_);refine ao.step (v:= .int .i64 (j:Int)) rfl hf.ops.Ko (by decide) ((aA hf.ops.Ko _).trans (by show BY (By (σ 6)) W=_;rw [h6])) (λa ao=> ?_);refine ao.step rfl hf.ops.NT (by decide) (NY hf.ops.NT hf.xb pH vE rfl rfl cI _) (λa ao=> ?_);refine ao.step rfl hf.ops.OR (by decide) (GQ hf.ops.OR (hT _ E lN) om dK hl rfl ahh) (λa ao=> ?_);refine ao.step rfl hf.ops.OS (by decide) (NZ hf.ops.OS pH ZL _) (λa ao=> ?_);have afG:(W.alloc (.cells z.cells el)).heap[W.heap.size]? =some (.cells z.cells el (0,0)):=iy W _;refine ao.BG rfl hf.ops.L6 (GR (v:= .agg Mf.toArray) (off:=0) hf.ops.L6 (hT _ E lN) om rfl rfl (by rw [hsc,hl]) (by rw [hsc];exact jd) afG (by rw [Kn];omega)) ?_;rw [hsc];obtain ⟨W2,NW⟩: ∃W2,W2=(W.alloc (.cells z.cells el)).setRow W.heap.size (z.cells.toList.take 0++Mf++z.cells.toList.drop (0+E.size)).toArray:=⟨_,rfl⟩
     rw [<-NW];have Lv:W2.heap.size=W.heap.size+1:=by rw [NW,setRow_size];simp
     have hold: ∀b,b<W.heap.size->W2.heap[b]? =W.heap[b]? :=λb hb=>by rw [NW,setRow_other _ _ _ _ (by omega)];exact (db.alloc W z.cells el).rK b hb
     have afH:W2.heap[W.heap.size]? =some (.cells Mf.toArray el (0,0)):=by
      rw [NW,gV _ afG];congr 3;have:z.cells.toList.drop (0+E.size)=[]:=by rw [acu,abV];rw [abS,Kn];exact OF _
      rw [this];simp
     have Sl:Rest W W2:=by rw [NW];exact (Rest.alloc W z.cells el).trans (.setRow _ _ _)
     have hgl:g0<W.heap.size:=acC OP.2.1 hW.tr.size;have BH:=hW.move hp (W2:=W2) (by omega) (λb hb _=>hold b hb) Sl hnz;have ahj: ∀b,ob=some b-> ¬((Z' b/\b<W.heap.size)\/W2.heap.size<=b):=by
      intro b hb;have:=akC b hb;subst this;rintro (h|h)
      ·exact hnz b hb h.1
      ·omega
     have afI: ∀{W:World} {b:Nat},W.heap[b]? =some (.cells Mf.toArray el (0,0))->W.rangeAt b 0 Mf:=by intro W b hb q v hq;rw [cell_of hb,acu];simpa using hq
     refine wp_seq (wp_region ?_);rw [show sh (#[o 22,o 23,o 24,o 25]:Array Oper).size=[0,1,2,3] from rfl];refine ao.step (v:= .func (.func g) #[] lb) rfl hf.ops.L7 (by decide) ((aA hf.ops.L7 _).trans (by show BY (By (σ 1)) W2=_;rw [h1])) (λa ao=> ?_);refine ao.step rfl hf.ops.L8 (by decide) (GQ hf.ops.L8 (hT _ E lN) om dK hl rfl (afI afH)) (λa ao=> ?_);refine ao.call rfl hf.ops.L9 (by decide) (Uh hf.ops.L9 rfl rfl _) (hp.call BH.inv BH.new BH.kZ Sd e2) ?_;rintro v W3 a ⟨rfl,φ3,t1,t2,t3⟩ ao;have ZX:W3.heap[g0]? =some (.cells mZ el (0,0)):=(t1.heap g0 (ahj g0 Vx) (by omega)).trans ((hold g0 hgl).trans Bj);have akE:W3.heap[W.heap.size]? =some (.cells Mf.toArray el (0,0)):=(t1.heap _ (by rintro (h|h)<;>omega) (by omega)).trans afH;have Ui:Bk c ob Inv Z0 φ0 w sk2 (λb=>(Z' b/\b<W.heap.size)\/W2.heap.size<=b) φ3 W3:=⟨t3,λb hb=>BH.new b (acv t1.size hb),BH.sub,t2,BH.tr.trans (t1.sup λb hb=> .inl (BH.sub b hb)),λb off hb=>by rw [t1.free b off (ahj b hb)];exact BH.free b off hb⟩
     refine ao.step (v:= .bool (!b)) rfl hf.ops.Ma (by decide) (NS hf.ops.Ma rfl _) (λa ao=> ?_);cases b with
     |true=>
      refine ao.cond (b:=false) rfl ?_;simp only [AI,if_false];refine wp_skip ?_;show Code.wp P (adG (r 10) #[o 34,o 35,o 36] false) _ a W3;refine wp_region ?_;rw [show sh (#[o 34,o 35,o 36]:Array Oper).size=[0,1,2] from rfl];refine ao.step (v:= .int .i64 (j:Int)) rfl hf.ops.Sk (by decide) ((aA hf.ops.Sk _).trans (by show BY (By (σ 6)) W3=_;rw [h6])) (λa ao=> ?_);refine ao.step (v:= .int .i64 ((j+1:Nat):Int)) rfl hf.ops.Ub (by decide) (jU (q:=1) hf.ops.Ub rfl rfl (by omega) _) (λa ao=> ?_);refine ao.step (v:= .int .i64 ((j+1:Nat):Int)) rfl hf.ops.VY (by decide) (bP hf.ops.VY _) (λa ao=> ?_);refine ⟨⟨_,ao,h0,h1,i,j+1,by omega,by omega,h5,rfl,mZ,sk2,_,φ3,yj,ZX,by rw [e3];rfl,Ui,⟨hR.size,hR.done.mono t1.ph,hR.len,?_⟩⟩,?_⟩
      ·rw [show (j+1) *E.size=j *E.size+E.size from abR _ _,<-acO,<-acO,hR.rest]
      ·have:a.tmps.getD 6 undef= .int .i64 ((j+1:Nat):Int):=by rw [ao.get 6];rfl
       rw [this];simp;omega
     |false=>
      refine ao.cond (b:=true) rfl ?_;simp only [if_true];refine wp_seq (wp_region ?_);rw [show sh (#[o 26,o 27,o 28,o 29,o 30]:Array Oper).size=[0,1,2,3,4] from rfl];refine ao.step (v:= .slice (some ⟨g0,0,none⟩) xs.length cp) rfl hf.ops.PZ (by decide) ((aA hf.ops.PZ _).trans (by show BY (By (σ 0)) W3=_;rw [h0])) (λa ao=> ?_);refine ao.step (v:= .int .i64 (i:Int)) rfl hf.ops.Sh (by decide) ((aA hf.ops.Sh _).trans (by show BY (By (σ 5)) W3=_;rw [h5])) (λa ao=> ?_);refine ao.step rfl hf.ops.Si (by decide) (GQ hf.ops.Si (hT _ E lN) om dK hl rfl (afI akE)) (λa ao=> ?_);refine ao.step rfl hf.ops.Sj (by decide) (NY hf.ops.Sj hf.xb pH vE rfl rfl (by omega) _) (λa ao=> ?_);refine ao.BG rfl hf.ops.P0 (GR (v:= .agg Mf.toArray) (off:=i *E.size) hf.ops.P0 (hT _ E lN) om rfl rfl (by rw [hsc,hl]) (by rw [hsc];exact jd) ZX (by rw [hR.size];omega)) ?_;rw [hsc];obtain ⟨W4,ZY⟩: ∃W4,W4=W3.setRow g0 (mZ.toList.take (i *E.size)++Mf++mZ.toList.drop (i *E.size+E.size)).toArray:=⟨_,rfl⟩
      rw [<-ZY];have ahk:=Ui.move hp (W2:=W4) (by rw [ZY,setRow_size];exact OF _) (λb _ cR=>by rw [ZY];exact setRow_other _ _ _ _ (λe=>cR (by rw [Vx,e]))) (by rw [ZY];exact .setRow _ _ _) ahj;refine wp_region ?_;rw [show sh (#[o 31,o 32,o 33]:Array Oper).size=[0,1,2] from rfl];refine ao.step (v:= .int .i64 (i:Int)) rfl hf.ops.Q9 (by decide) ((aA hf.ops.Q9 _).trans (by show BY (By (σ 5)) W4=_;rw [h5])) (λa ao=> ?_);refine ao.step (v:= .int .i64 ((i+1:Nat):Int)) rfl hf.ops.Ra (by decide) (jU (q:=1) hf.ops.Ra rfl rfl (by omega) _) (λa ao=> ?_);refine ao.step (v:= .int .i64 ((i+1:Nat):Int)) rfl hf.ops.Rb (by decide) (bP hf.ops.Rb _) (λa ao=> ?_);show Code.wp P (adG (r 10) #[o 34,o 35,o 36] false) _ a W4;refine wp_region ?_;rw [show sh (#[o 34,o 35,o 36]:Array Oper).size=[0,1,2] from rfl];refine ao.step (v:= .int .i64 (j:Int)) rfl hf.ops.Sk (by decide) ((aA hf.ops.Sk _).trans (by show BY (By (σ 6)) W4=_;rw [h6])) (λa ao=> ?_);refine ao.step (v:= .int .i64 ((j+1:Nat):Int)) rfl hf.ops.Ub (by decide) (jU (q:=1) hf.ops.Ub rfl rfl (by omega) _) (λa ao=> ?_);refine ao.step (v:= .int .i64 ((j+1:Nat):Int)) rfl hf.ops.VY (by decide) (bP hf.ops.VY _) (λa ao=> ?_);refine ⟨⟨_,ao,h0,h1,i+1,j+1,by omega,by omega,rfl,rfl,_,sk2,_,φ3,yj++[xs[j]],by rw [ZY];exact gV _ ZX,by rw [e3];rfl,ahk,⟨?_,?_,by rw [abP,hR.len];rfl,?_⟩⟩,?_⟩
      ·simp only [ae5,abP,aaG,ac9,oq,hl];omega
      ·rw [show (i+1) *E.size=i *E.size+E.size from abR _ _];have h9:(mZ.toList.take (i *E.size)++Mf).length=i *E.size+E.size:=by rw [abP,aaG,oq,hl];omega
       show aX c.key φ3 E.size (afM (i *E.size+E.size) (mZ.toList.take (i *E.size)++Mf++mZ.toList.drop (i *E.size+E.size))) _;rw [<-h9,afr];exact (hR.done.mono t1.ph).append ⟨Mf,[],by simp,hl,eK.mono t1.ph,rfl⟩
      ·show (afM (xs.length *E.size) (mZ.toList.take (i *E.size)++Mf++mZ.toList.drop (i *E.size+E.size))).drop ((j+1) *E.size)=_;have h8:cells.drop ((j+1) *E.size)=(mZ.toList.take (xs.length *E.size)).drop ((j+1) *E.size):=by rw [show (j+1) *E.size=j *E.size+E.size from abR _ _,<-acO,<-acO,hR.rest]
       rw [h8];apply ae7;intro q;have B9:(j+1) *E.size=j *E.size+E.size:=abR _ _;rw [abQ,abQ,abT,abT];split
       ·have h9:(mZ.toList.take (i *E.size)++Mf).length=i *E.size+E.size:=by rw [abP,aaG,oq,hl];omega
        rw [List.getElem?_append_right (by rw [h9];omega),h9,abQ];congr 1;omega
       ·rfl
      ·have:a.tmps.getD 6 undef= .int .i64 ((j+1:Nat):Int):=by rw [ao.get 6];rfl
       rw [this];simp;omega
 exact key _ (tm2 _ _ 40)
theorem adq (hf:ZW P f t ti tb fu fi el fn r o)(YM:ZS P fi t ti el fni ri oi)(hT:ia P c.ti)(hE:c.tv el=some E)(dK:E.st=true)(eD:0<E.size):NP P c f el:=by
 refine ⟨?_⟩;intro S Inv step g lb hp v0 xs ys w Z0 φ0 s0 s' HU gd Gh hinv jC iQ hd;obtain ⟨lN,om⟩:=bj hE;obtain ⟨I,cells,hI,Q5,dn,ib,jI⟩:=gd.row;have hI:c.ti el=some I:=hI;rw [lN] at hI;cases hI;have dn:w.ownsRow 0 el E.size v0 xs.length cells:=dn;have ib:aX c.key φ0 E.size cells xs:=ib;have ou: ∀b,v0.ownBlock=some b-> ∀off,φ0 b off=none:=by
  intro b hb off;cases h:φ0 b off with
  |none=>rfl
  |some u=>have:=((jI b hb).2.1 off u h).1;cases this
 rcases dn.2 with ⟨rfl,h0⟩|⟨gb,cap,cY,rfl,_,cz,Pe,CD,uq,Lu⟩
 ·have hx:xs=[]:=ab7 h0;subst hx;refine ox hf.pos hf.name hf.body ((P5 (ob:=none) (g0:=0) (cY:= #[]) hf YM hp hT hE dK eD (cp:=0) HU (λh=>absurd h (by simp)) (λb hb=>by cases hb) ib (by simp) hinv jC iQ hd).mono ?_);rintro e W ⟨v,rfl,Z,φ,hW,h1⟩;rcases h1 with ⟨rfl,rfl,_⟩|⟨h1,_⟩
  ·exact ⟨_,rfl,Z,φ,hW,⟨E,[],lN,om,⟨by simp,.inl ⟨rfl,rfl⟩⟩,rfl,λa8 hb=>by simp [abW] at hb⟩,λ_ h=>h⟩
  ·simp at h1
 ·have cI:=aZ cz;have aoZ:xs.length<2^63:=by unfold Go.maxLen at CD;omega
  refine ox hf.pos hf.name hf.body ((P5 (ob:=some gb) (g0:=gb) hf YM hp hT hE dK eD (cp:=cap) HU (λh=>⟨rfl,rfl,cz,Lu,Pe,uq⟩) (λb hb=>by cases hb;exact ⟨Gh gb rfl,cI,ou gb rfl⟩) ib aoZ hinv jC iQ hd).mono ?_);rintro e W ⟨v,rfl,Z,φ,hW,h1⟩;rcases h1 with ⟨rfl,rfl,h2⟩|⟨h0,rfl,mZ,h2,h3,h4⟩
  ·refine ⟨_,rfl,Z,φ,hW,⟨E,cells,lN,om,⟨dn.1,.inr ⟨gb,cap,cY,rfl,abU _,(h2 gb rfl).trans cz,Pe,CD,uq,Lu⟩⟩,ib.mono hW.tr.ph,λa8 hb=>⟨hb,λoff u hu=> ?_,λhc=>hc.elim⟩⟩,λ_ h=>h⟩;have hu:φ a8 off=some u:=hu;rw [hW.free a8 off hb] at hu;cases hu
  ·have hle:ys.length<=cap:=acv (ZD hd) Pe;refine ⟨_,rfl,Z,φ,hW,⟨E,mZ.toList.take (ys.length *E.size),lN,om,⟨?_,.inr ⟨gb,cap,mZ,rfl,abU _,?_,hle,CD,h3,rfl⟩⟩,h4,λa8 hb=>⟨hb,λoff u hu=> ?_,λhc=>hc.elim⟩⟩,λ_ h=>h⟩
   ·exact h4.length
   ·have:mZ=mZ:=rfl;exact h2
   ·have hu:φ a8 off=some u:=hu;rw [hW.free a8 off hb] at hu;cases hu
end
end Dn
/-
  A step for each one that is not bad. Conditions: none.
-/
namespace Dn
end Dn
/-
  A method that calls a function for each good one, walked, with whatever function; closures that hand a captured variable on. Conditions: none.
-/
namespace Dn
open Go
section
variable {P:Program}{c:Ctx}{ops:Array Oper}{N:Act->World->Prop} {φ:Ph}{o:Oper}{a:Act} {w w':World}{n:Nat} {σ:Nat->Value}{Q:Exit->Act->World->Prop}
structure DS (c:Ctx) (ops:Array Oper) (pre rest:List Nat) (listed:Array Bool):Prop where
 lst:XH ops listed pre
 dr:qK c ops.toList pre rest=true
 all: ∀i,i<ops.size->i∈pre\/i∈rest
 lt: ∀i∈pre,i<ops.size
 sel: ∀(j:Nat) (o:Oper) cs b,ops[j]? =some o->o.op≠ .select cs b
theorem DS.facts {x:Nat}{rest pre:List Nat}{listed:Array Bool}(h:DS c ops pre (x::rest) listed)(hx:ops[x]? =some o): x∉pre/\x∉rest/\x∈ae8 .any ops listed/\DS c ops (x::pre) rest (listed.setIfInBounds x true)/\ (bif gQ o&&!fC c o then qJ c ops.toList o [x] rest else (rest.all λy=>match ops.toList[y]? with
   |some p=>bif Ga p then G8 ops.toList p o&&af5 c p else xf p (λi=>ade i x||(bx rest i&&!af6 ops.toList i))
   |none=>false))=true:=by
 have R8:x<ops.size:=(No.1 hx).1;have hd:=h.dr;have hox:ops.toList[x]? =some o:=by simpa using hx
 simp only [qK,hox] at hd;simp only [abM,afc] at hd;obtain ⟨⟨⟨⟨d1,d2⟩,d3⟩,d4⟩,d5⟩:=hd;have zX:x∉pre:=by rw [<-bu,d2];simp
 have HS:x∉rest:=by rw [<-bu,d3];simp
 refine ⟨zX,HS,?_,⟨h.lst.set R8,d5,?_,?_,h.sel⟩,?_⟩
 ·refine mem_ready.2 ⟨(h.lst.oZ R8).2 zX,o,hx,λed VO hb=> ?_⟩;have:=abN.1 d1 ed (by simpa using VO);simp only [pY,hb,afz,aeW] at this;have hm:=(bu _ _).1 this;exact (h.lst.done (h.lt _ hm)).2 hm
 ·intro i hi;rcases h.all i hi with h1|h1
  ·exact .inl (by simp [h1])
  ·rcases ab6.1 h1 with h1|h1
   ·exact .inl (by simp [h1])
   ·exact .inr h1
 ·intro i hi;rcases ab6.1 hi with rfl|hi
  ·exact R8
  ·exact h.lt i hi
 ·exact d4
theorem ads {o:Oper}(h:nk o=true):jP c o=true:=by simp [jP,h]
theorem DS.read {x d:Nat}{rest pre:List Nat}{listed:Array Bool}{op:Op}{v:Value}(h:DS c ops pre (x::rest) listed)(hx:ops[x]? =some o)(ho:ak o d op)(hd:d<n)(KA:gQ o=true)(hmv:fC c o=false)(dK:still c o=false)(hlk:zB o=none)(ao:Tm a n σ)(hi:oS φ w)(bF: ∀w',(nk o=true->db w w')->(execOp (ev σ) o).run P w'= .ok (.value v) w')(LD: ∀a',Tm a' n (rl σ d v)->DS c ops (x::pre) rest (listed.setIfInBounds x true)->yY P c ops N φ rest.length (listed.setIfInBounds x true) a' w):yY P c ops N φ (rest.length+1) listed a w:=by
 obtain ⟨zX,HS,sX,uo,d4⟩:=h.facts hx;simp only [KA,hmv,adX,Bool.and_self,cond_true] at d4;obtain ⟨D,D1,D2,D3,D4⟩:=vB rest [x] d4 (λy hy cR=>absurd (by simpa using hy) cR);have hL:=h.lst;refine xz (v:=v) D3 hx h.sel rest.length listed a w ?_ ?_ sX ?_ hi ?_
 ·intro j oj R7 hjD hjx PM;have PR:j<ops.size:=(No.1 R7).1;have hjr:j∈rest:=by
   rcases h.all j PR with h1|h1
   ·exact absurd h1 ((hL.oZ PR).1 PM)
   ·rcases ab6.1 h1 with h1|h1
    ·exact absurd h1 hjx
    ·exact h1
  obtain ⟨p,Ve,Lx,hp3⟩:=D4 j hjr hjD;rw [R7] at Ve;cases Ve;exact ⟨Lx,λhl hs=>by simp [pX,R7,hp3 hl hs]⟩
 ·intro d hd;have hdn:d∉pre:=by
   rcases D2 d hd with h1|h1
   ·have h1:d=x:=by simpa using h1
    rw [h1];exact zX
   ·exact λhp=>lU rest (x::pre) uo.dr d h1 (by simp [hp])
  by_cases LU:d<ops.size
  ·cases hg:listed.getD d false with
   |false=>rfl
   |true=>exact absurd ((hL.done LU).1 hg) hdn
  ·have hl: ¬d<listed.size:=by rw [hL.size];exact LU
   simp [hl]
 ·refine .inl ⟨by simp [ae3,ho.guard],λw' hg=> ?_⟩;rw [ao.eval];refine bF w' (λhl=> ?_);have:=(hg (ads hl)).1 dK;simpa [eL,RW,hlk] using this
 ·rw [ho.dst];exact LD _ (ao.put hd v) uo
theorem DS.akF {x:Nat}{rest pre:List Nat}{listed:Array Bool}(h:DS c ops pre (x::rest) listed)(hx:ops[x]? =some o)(Vv: ∀y∈rest,∀p,ops[y]? =some p->Ga p=false)(hnr:(gQ o&&!fC c o)=false)(hw:wpOp P ops (oY N) x (λa' w'=>((∀oi,pX c oi ops x=true->eL c oi w w')/\oS φ w')/\yY P c ops N φ rest.length (listed.setIfInBounds x true) a' w') a w):yY P c ops N φ (rest.length+1) listed a w:=by
 obtain ⟨zX,HS,sX,uo,d4⟩:=h.facts hx;simp only [hnr,cond_false] at d4;refine ⟨λh0=>(by rw [h0] at sX;cases sX),λi hi=> ?_⟩;obtain ⟨Y9,oi,VP,Sa⟩:=mem_ready.1 hi;have VQ:i<ops.size:=(No.1 VP).1;have rX:=(h.lst.oZ VQ).1 Y9;by_cases PN:i=x
 ·subst PN;exact hw
 ·exfalso;have hir:i∈rest:=by
   rcases h.all i VQ with h1|h1
   ·exact absurd h1 rX
   ·exact (ab6.1 h1).resolve_left PN
  have h1:=abN.1 d4 i hir;have ag0:ops.toList[i]? =some oi:=by simpa using VP
  simp only [ag0,Vv i hir oi VP,cond_false] at h1;unfold xf at h1;obtain ⟨ed,VO,hb⟩:=afe.1 h1;simp only [abM,Bool.or_eq_true,pY] at hb;have L2:=Sa ed (by simpa using VO) hb.1;have rS:ed.on=x\/ed.on∈rest:=by
   rcases hb.2 with h2|h2
   ·exact .inl (ab1 h2)
   ·exact .inr ((bu _ _).1 h2.1)
  have cI:ed.on<listed.size:=by apply Decidable.byContradiction;intro hh;simp [hh] at L2
  have hm:=(h.lst.done (by rw [<-h.lst.size];exact cI)).1 L2;rcases rS with h2|h2
  ·rw [h2] at hm;exact zX hm
  ·exact lU rest (x::pre) uo.dr _ h2 (by simp [hm])
theorem DS.done {pre:List Nat}{listed:Array Bool}(h:DS c ops pre [] listed)(hN:N a w):yY P c ops N φ 0 listed a w:=by
 refine ⟨?_,hN⟩;cases hr:ae8 .any ops listed with
 |nil=>rfl
 |cons i is=>
  have hi:i∈ae8 .any ops listed:=by rw [hr];simp
  obtain ⟨h1,o,ho,_⟩:=mem_ready.1 hi;have cI:i<ops.size:=(No.1 ho).1;exact absurd ((h.all i cI).resolve_right (by simp)) ((h.lst.oZ cI).1 h1)
theorem P6 {id:Nat}{ord:List Nat}(hm:P.follows .mixedOrders=true)(hd:sL c ops ord=true)(h: ∀listed,DS c ops [] ord listed->yY P c ops (λa w=>Q .normal a w) φ ord.length listed a {w with drawn:=w.drawn+1}):(adG id ops true).wp P Q a w:=by
 simp only [sL,abM] at hd;obtain ⟨⟨⟨YP,hl0⟩,sR⟩,hd⟩:=hd;have KM: ∀(j:Nat) (o:Oper) cs b,ops[j]? =some o->o.op≠ .select cs b:=by intro j o cs b ho he;have:=abN.1 YP o (List.mem_of_getElem? (by simpa using ho:ops.toList[j]? =some o));simp [he] at this
 have hlen:ord.length=ops.size:=by have:=ab1 hl0;simpa using this
 refine Code.wp_mono (Q:=oY λa w=>Q .normal a w) ?_ (wp_region_any hm (PL (c:=c) (φ:=φ) _ _ _ _ ?_))
 ·intro x a' w' hx;cases x<;>first|exact hx|exact hx.elim
 ·rw [<-hlen];exact h _ ⟨⟨by simp [hlen],λi hi=>by simp [hlen,hi]⟩,hd,λi hi=> .inr ((bu _ _).1 (abN.1 sR i (by simpa using hi))),by simp,KM⟩
end
section
variable {P:Program}{c:Ctx}{o:Oper} {w w':World}{d:Nat}{e:Operand->Value}
theorem kw {t f g off q:Nat}{x:Operand}{I:TI}(ho:ak o d (.fieldAddr t x f))(hT:ia P c.ti)(hI:c.tv t=some I)(dK:I.st=true)(hq:I.yS[f]? =some q)(hx:e x= .pointer (some ⟨g,off,none⟩))(w:World):(execOp e o).run P w= .ok (.value (.pointer (some ⟨g,off+q,none⟩))) w:=by
 obtain ⟨lQ,hc⟩:=bj hI;obtain ⟨d,i,h1,h2,h3,h4⟩:=hT t I lQ;cases d<;>simp only [rT] at h4;case struct fs=>
  obtain ⟨_,_,_,ho1,cB,Tv,_⟩:=h4;rw [<-ho1,acY] at hq;cases hf:fs.toList[f]? with
  |none=>simp [hf] at hq
  |some fl=>
   simp [hf] at hq;subst hq;have O9:fs[f]? =some fl:=by simpa using hf
   obtain ⟨J,hJ,hJc,hJs⟩:=Tv f fl O9;obtain ⟨ij,Tw,hs,_⟩:=(hT _ _ hJ).info hJc;have hz:ij.size≠0:=by omega
   simp [execOp,ho.op,hx,Instr.fieldAt,run_underlying h1,O9,afw,fieldPlace,Go.sizeOf,typeInfo,Tw,hz,afX]
 all_goals (exfalso;simp_all)
theorem lV {t g off:Nat}{I:TI}{v:Value}(hT:ia P c.ti)(hI:c.tv t=some I)(dK:I.st=false)(hs:I.size=1)(hm:w.cell? ⟨g,off,none⟩=some v):(abX t (.pointer (some ⟨g,off,none⟩))).run P w= .ok v w:=by
 obtain ⟨lQ,hc⟩:=bj hI;have hr:w.rangeAt g off [v]:=by
  intro j u hj;cases j with
  |zero=>simp at hj;subst hj;exact hm
  |succ j=>simp at hj
 rcases jQ (P:=P) (hT t I lQ) hc (vs:=[v]) (by simp [hs]) hr with ⟨h,_⟩|⟨_,u,hu,h⟩
 ·rcases h with h|h
  ·rw [dK] at h;cases h
  ·omega
 ·simp at hu;subst hu;exact h w hr
theorem Cc {t g off:Nat}{I:TI}{vs:List Value}(hT:ia P c.ti)(hI:c.tv t=some I)(dK:I.st=true)(hs:vs.length=I.size)(hm:w.rangeAt g off vs):(abX t (.pointer (some ⟨g,off,none⟩))).run P w= .ok (.agg vs.toArray) w:=by
 obtain ⟨lQ,hc⟩:=bj hI;rcases jQ (P:=P) (hT t I lQ) hc hs hm with ⟨_,h⟩|⟨h,_⟩
 ·exact h w hm
 ·rw [dK] at h;cases h
theorem vF {t:Nat}{x:Operand}{v:Value}(ho:ak o d (.load t x))(h:(abX t (e x)).run P w= .ok v w):(execOp e o).run P w= .ok (.value v) w:=by simp [execOp,ho.op,h]
theorem pZ {x:Operand}{ad:Addr}(ho:ak o d (.nilCheck x))(hx:e x= .pointer (some ad))(w:World):(execOp e o).run P w= .ok (.value (.pointer (some ad))) w:=by simp [execOp,ho.op,hx]
theorem adt {t el:TypeId}{x y:Operand}{g off n cp j size:Nat}{i:TypeInfo}(ho:ak o d (.indexAddr t x y))(hu:P.underlying t=some (.slice el))(hi:P.info? el=some i)(hs:i.size=size)(hx:e x= .slice (some ⟨g,off,none⟩) n cp)(hy:e y= .int .i64 ((j:Nat):Int))(hj:j<n)(w:World):(execOp e o).run P w= .ok (.value (.pointer (some ⟨g,off+j *size,none⟩))) w:=by
 have h2: ¬n<=j:=by omega
 simp [execOp,ho.op,hx,hy,Instr.indexAt,asIntOf,run_underlying hu,h2,Go.sizeOf,typeInfo,hi,hs,afX]
theorem adu {t:Nat}{x:Operand}(ho:ak o d (.box t x))(w:World):(execOp e o).run P w= .ok (.value (.pointer (some ⟨w.heap.size,0,none⟩))) (w.alloc (.cells (e x).cells t)):=by simp [execOp,ho.op,Instr.box,newVar,newRow,newObj,Sem.run]
theorem Uj {x:Operand}{t:TypeId}{g:Nat}{v:Value}(ho:ak o d (.call {callee:= .value (.func g),args:= #[x],argTypes:= #[t]})) (he:e (.func g)= .func (.func g) #[] #[]) (hx:e x=v) (w:World):(execOp e o).run P w=(callFunc g #[v]).run P w:=by simp [execOp,ho.op,resolve,invoke,he,hx,ada]
theorem Uk {x y:Operand}{t:Array TypeId}{g:Nat}{v u:Value}(ho:ak o d (.call {callee:= .value (.func g),args:= #[x,y],argTypes:=t})) (he:e (.func g)= .func (.func g) #[] #[]) (hx:e x=v) (hy:e y=u) (w:World):(execOp e o).run P w=(callFunc g #[v,u]).run P w:=by simp [execOp,ho.op,resolve,invoke,he,hx,hy,ada]
theorem Ul {x y z:Operand}{t:Array TypeId}{g:Nat}{v u s:Value}(ho:ak o d (.call {callee:= .value (.func g),args:= #[x,y,z],argTypes:=t})) (he:e (.func g)= .func (.func g) #[] #[]) (hx:e x=v) (hy:e y=u) (hz:e z=s) (w:World):(execOp e o).run P w=(callFunc g #[v,u,s]).run P w:=by simp [execOp,ho.op,resolve,invoke,he,hx,hy,hz,ada]
end
structure amV (tS tb tB ti:Nat) (o:Nat->Oper):Prop where
 h0:ak (o 0) 6 (.move (.tmp 0))
 h1:ak (o 1) 7 (.nilCheck (.tmp 6))
 h2:ak (o 2) 8 (.fieldAddr tS (.tmp 7) 1)
 h3:ak (o 3) 9 (.load tb (.tmp 8))
 h4:ak (o 4) 10 (.call {callee:= .builtin .len,args:= #[.tmp 9],argTypes:= #[tb]})
 h5:ak (o 5) 11 (.move (.const (.int .i64 0)))
 h6:ak (o 6) 12 (.binOp .lss ti (.tmp 11) (.tmp 10) ti)
 h7:ak (o 7) 13 (.move (.tmp 11))
 h8:ak (o 8) 14 (.indexAddr tb (.tmp 9) (.tmp 11))
 h9:ak (o 9) 15 (.load tB (.tmp 14))
 B9:ak (o 10) 4 (.assign (.tmp 13))
 FC:ak (o 11) 5 (.assign (.tmp 15))
 FD:ak (o 12) 16 (.move (.tmp 5))
 FE:ak (o 13) 17 (.unOp .not tB (.tmp 16))
 FF:ak (o 14) 18 (.move (.tmp 1))
 FG:ak (o 15) 19 (.move (.tmp 4))
 FH:ak (o 16) 20 (.call {callee:= .value (.tmp 18),args:= #[.tmp 19],argTypes:= #[ti]})
 Ko:ak (o 17) 21 (.binOp .add ti (.tmp 11) (.const (.int .i64 1)) ti)
 NT:ak (o 18) 11 (.move (.tmp 21))
theorem ahl {P:Program}{fn:Func}{n:Nat}{a:Act}{w:World} {σ:Nat->Value}{R:Value->World->Prop}(hr:fn.results= #[])(ao:Tm a n σ)(h: ∀v,R v w):bodyPost P fn (λe W=> ∃v,e= .returned v/\R v W) .normal a w:=by refine ⟨ao.defers,.tuple #[],?_,_,rfl,h _⟩;simp [results,hr]
section
variable {P:Program}{c:Ctx}{f tS tb tB ti:Nat}{fn:Func}{r:Nat->Nat}{o:Nat->Oper}{IS Ib IB:TI}{w:World}
end
structure arh (P:Program) (f fE tP t3:Nat) (fn:Func) (r:Nat) (o:Nat->Oper):Prop where
 pos:P.funcs[f]? =some fn
 name:(fn.name== "runtime.NumGoroutine")=false
 tmps:fn.ntmps=8
 res:fn.results= #[]
 body:fn.body=some (.region r #[o 0,o 1,o 2,o 3] false)
 h0:ak (o 0) 4 (.load tP (.tmp 1))
 h1:ak (o 1) 5 (.move (.tmp 0))
 h2:ak (o 2) 6 (.load t3 (.tmp 2))
 h3: ∃ts,ak (o 3) 7 (.call {callee:= .value (.func fE),args:= #[.tmp 4,.tmp 5,.tmp 6],argTypes:=ts})
end Dn
/-
  What stands in a variable of six parts, of which one is owned: looks at it, and calls that are handed it. Conditions: none.
-/
namespace Dn
open Go
structure CS where
 F:Int
 T:Int
 bl:List MV
 wl:List MV
 nl:List MV
 pl:List MV
def CS.ls (s:CS):List MV:=[.i .i64 s.F,.i .i64 s.T,.list s.bl,.list s.wl,.list s.nl,.list s.pl]
abbrev KS (f ty:Nat):List LK:=[.k (.i .i64),.k (.i .i64),.k .l,.k .l,.own f ty false,.k .l]
structure Six where
 b:Value
 w:Value
 n:Value
 p:Value
def Six.vs (s:CS)(v:Six):List Value:=[.int .i64 s.F,.int .i64 s.T,v.b,v.w,v.n,v.p]
structure P7 (c:Ctx) (Z:Nat->Prop) (φ:Ph) (W:World) (bc ty:Nat) (s:CS) (v:Six):Prop where
 heap: ∃T,W.heap[bc]? =some (.cells (v.vs s).toArray T (0,0))
 ch:Z bc
 free: ∀o,φ bc o=none
 b:gY c.key φ [v.b] (.list s.bl)
 w:gY c.key φ [v.w] (.list s.wl)
 p:gY c.key φ [v.p] (.list s.pl)
 n:cu c (bC.plain Z) (na c.key φ) W v.n ⟨ty,false,s.nl⟩
 off:v.n.ownBlock≠some bc
section
variable {P:Program}{c:Ctx}{Z:Nat->Prop} {φ:Ph} {W W':World}{bc ty f:Nat}{s:CS}
theorem ZZ:LC (KS f ty) s.ls=some ([.p (.i .i64 s.F),.p (.i .i64 s.T),.p (.list s.bl),.p (.list s.wl),.own f,.p (.list s.pl)],[(f,⟨ty,false,s.nl⟩)]):=by simp [LC,CS.ls,KS,cQ,ll,jL,gC,gI,gL,gN,OV]
theorem N2 {key:Nat->Nat}{vs:List Value}{m:MV}(h:gY key φ vs m)(hm:m.one=true): ∃v,vs=[v]:=by obtain ⟨v,h1,_⟩:=h.one hm;exact ⟨v,h1⟩
theorem gf.six (h:gf c Z φ W bc (KS f ty) s.ls): ∃v,P7 c Z φ W bc ty s v:=by
 obtain ⟨cs,m,E,arr,T,h1,h2,h3,h4,h5,h6,h7⟩:=h;rw [ZZ] at h1;simp only [bN,ac3] at h1;obtain ⟨rfl,rfl⟩:=h1;obtain ⟨v0,r0,e0,⟨_,l0⟩,h5⟩:=h5;obtain ⟨v1,r1,e1,⟨_,l1⟩,h5⟩:=h5;obtain ⟨v2,r2,e2,⟨_,l2⟩,h5⟩:=h5;obtain ⟨v3,r3,e3,⟨_,l3⟩,h5⟩:=h5;obtain ⟨v4,r4,e4,⟨vn,rfl,_,hE⟩,h5⟩:=h5;obtain ⟨v5,r5,e5,⟨_,l5⟩,h5⟩:=h5;have h5:r5=[]:=h5;subst h5;have l0:gY c.key φ v0 (.i .i64 s.F):=l0;have l1:gY c.key φ v1 (.i .i64 s.T):=l1;cases l0;cases l1;have l2:gY c.key φ v2 (.list s.bl):=l2;have l3:gY c.key φ v3 (.list s.wl):=l3;have l5:gY c.key φ v5 (.list s.pl):=l5;obtain ⟨vb,rfl⟩:=N2 l2 rfl;obtain ⟨vw,rfl⟩:=N2 l3 rfl;obtain ⟨vp,rfl⟩:=N2 l5 rfl;have hf:aI [(f,(⟨ty,false,s.nl⟩:oM))] f=some ⟨ty,false,s.nl⟩:=by simp [aI]
 have hE:=hE _ hf;subst hE;obtain ⟨k1,k2⟩:=h6 f _ hf;refine ⟨⟨vb,vw,_,vp⟩,⟨T,?_⟩,h3,h4,l2,l3,l5,k1.env rfl rfl,k2⟩;have:arr=(Six.vs s ⟨vb,vw,E f,vp⟩).toArray:=by apply afj.1;rw [e0,e1,e2,e3,e4,e5];rfl
 rw [<-this];exact h2
theorem P7.cell {v:Six}(h:P7 c Z φ W bc ty s v):gf c Z φ W bc (KS f ty) s.ls:=by
 obtain ⟨T,hh⟩:=h.heap;have jd:v.n.oneCell'=true:=by obtain ⟨I,cells,q1,q2,q3,q4,q5⟩:=h.n.row;rcases q3.2 with ⟨h1,_⟩|⟨g,cap,cY,h1,_⟩<;>rw [h1]<;>rfl
 have hf: ∀f' o',aI [(f,(⟨ty,false,s.nl⟩:oM))] f'=some o'->f'=f/\o'=⟨ty,false,s.nl⟩:=by
  intro f' o' ho;simp only [aI,fm] at ho;by_cases eU:f=f'
  ·subst eU;simp at ho;exact ⟨rfl,ho.symm⟩
  ·simp [eU] at ho
 refine ⟨_,_,λ_=>v.n,_,T,ZZ,hh,h.ch,h.free,?_,?_,?_⟩
 ·exact ⟨[_],_,rfl,⟨rfl,.i _ _⟩,[_],_,rfl,⟨rfl,.i _ _⟩,[_],_,rfl,⟨rfl,h.b⟩,[_],_,rfl,⟨rfl,h.w⟩,[_],_,rfl,⟨_,rfl,jd,λ_ _=>rfl⟩,[_],_,rfl,⟨rfl,h.p⟩,rfl⟩
 ·intro f' o' ho;obtain ⟨rfl,rfl⟩:=hf f' o' ho;exact ⟨h.n.env rfl rfl,h.off⟩
 ·intro f1 f2 o1 o2 k h1 h2 _ _;exact (hf f1 o1 h1).1.trans (hf f2 o2 h2).1.symm
theorem gf.frame {a8:Nat}{ks:List LK}{ls:List MV}(h:gf c Z φ W a8 ks ls)(pJ:W.heap.size<=W'.heap.size)(iM: ∀b,Z b->b<W.heap.size->W'.heap[b]? =W.heap[b]?):gf c (λb=>Z b/\b<W.heap.size) φ W' a8 ks ls:=by
 obtain ⟨cs,m,E,arr,T,k1,k2,k3,k4,k5,k6,k7⟩:=h;have cI:=aZ k2;refine ⟨cs,m,E,arr,T,k1,(iM a8 k3 cI).trans k2,⟨k3,cI⟩,k4,k5,λf' o' ho=>⟨?_,(k6 f' o' ho).2⟩,k7⟩;obtain ⟨I,cells,q1,q2,q3,q4,q5⟩:=(k6 f' o' ho).1.row;refine ⟨I,cells,q1,q2,⟨q3.1,?_⟩,q4,λb hb=>⟨⟨(q5 b hb).1,Hr q3 hb⟩,(q5 b hb).2⟩⟩;rcases q3.2 with h6|⟨g,cap,cY,r1,r2,r3,r4⟩
 ·exact .inl h6
 ·exact .inr ⟨g,cap,cY,r1,r2,(iM g (q5 g (by rw [r1];rfl)).1 (aZ r3)).trans r3,r4⟩
theorem gf.more {φ':Ph}{a8:Nat}{ks:List LK}{ls:List MV}(h:gf c Z φ W a8 ks ls)(hp:gZ φ φ')(hz: ∀b o,Z b->φ' b o=φ b o):gf c Z φ' W a8 ks ls:=by
 obtain ⟨cs,m,E,arr,T,k1,k2,k3,k4,k5,k6,k7⟩:=h;have rS:ki (λ_=>True) (λ_=>True) ⟨c.key,φ,E,λ_=>a8,m⟩ ⟨c.key,φ',E,λ_=>a8,m⟩:=⟨rfl,hp,λ_ _=>rfl,λf o ho _=>⟨o,ho,rfl,rfl⟩⟩
 refine ⟨cs,m,E,arr,T,k1,k2,k3,λo=>by rw [hz a8 o k3];exact k4 o,k5.on rS (λ_ _ _ _=>trivial),λf' o' ho=>⟨?_,(k6 f' o' ho).2⟩,k7⟩;obtain ⟨I,cells,q1,q2,q3,q4,q5⟩:=(k6 f' o' ho).1.row;refine ⟨I,cells,q1,q2,q3,q4.mono hp,λb hb=>⟨(q5 b hb).1,λoff u hu=>(q5 b hb).2.1 off u ?_,λhc=>hc.elim⟩⟩;have hu:φ' b off=some u:=hu;rw [hz b off (q5 b hb).1] at hu;exact hu
theorem cu.still {v:Value}{xs:List MV}(h:cu c (bC.plain Z) (na c.key φ) W v ⟨ty,false,xs⟩)(hi:oS φ W): ∃φ',gZ φ φ'/\oS φ' W/\(∀b o,v.ownBlock≠some b->φ' b o=φ b o)/\gY c.key φ' [v] (.list xs):=by
 obtain ⟨I,cells,hI,Q5,dn,ib,hz⟩:=h.row;have ib:aX c.key φ I.size cells xs:=ib;have hlen:=ib.length;have Vv: ∀b,v.ownBlock=some b-> ∀off,φ b off=none:=by
  intro b hb off;cases hq:φ b off with
  |none=>rfl
  |some u=>exact absurd ((hz b hb).2.1 off u hq).1 (by simp)
 have hle:gZ φ (kj φ v cells):=by
  intro b off u hu;unfold kj;by_cases hc:v.ownBlock=some b/\off<cells.length
  ·rw [Vv b hc.1 off] at hu;cases hu
  ·rw [if_neg hc];exact hu
 refine ⟨kj φ v cells,hle,?_,λb o hb=>by unfold kj;simp [hb],?_⟩
 ·intro b off u hu;unfold kj at hu;by_cases hc:v.ownBlock=some b/\off<cells.length
  ·rw [if_pos hc] at hu;rcases dn.2 with ⟨hE,_⟩|⟨g,cap,cY,hE,_,hg,hn,CD,uq,Lu⟩
   ·rw [hE] at hc;simp [abW] at hc
   ·rw [hE] at hc;simp only [abW,bN] at hc;obtain ⟨hb,ho⟩:=hc;subst hb;rw [cell_of hg];rw [<-Lu,abT] at hu;have ari:cells.length=xs.length *I.size:=hlen;have atz:afM (xs.length *I.size) cY.toList=cells:=Lu;have cB:off<xs.length *I.size:=by omega
    simp only [cB,if_true] at hu;simpa using hu
  ·rw [if_neg hc] at hu;exact hi _ _ _ hu
 ·have zK:=ib.mono hle;rcases dn.2 with ⟨hE,hn⟩|⟨g,cap,cY,hE,_,hg,hn,CD,uq,Lu⟩
  ·have hx:xs=[]:=ab7 hn;rw [hE,hx];exact .list none 0 [] 0 0 0 (λ_=>[]) (by simp) (by simp) (by simp) (by simp) (by simp)
  ·have hv:[v]=[afk (some ⟨g,0,none⟩) xs.length cap]:=by rw [hE]
   rw [hv];have Gd: ∀i (hi:i<xs.length),∃v1,v1.length=I.size/\gY c.key (kj φ v cells) v1 xs[i]/\(cells.drop (i *I.size)).take I.size=v1:=by intro i hi;obtain ⟨p1,v1,p2,he,CE,sv,eK⟩:=zK.at (abL hi);refine ⟨v1,sv,eK,?_⟩;rw [he,ae6,<-CE,List.drop_left,<-sv,afr]
   refine .list (some ⟨g,0,none⟩) cap xs g 0 I.size (λi=>(cells.drop (i *I.size)).take I.size) hn (λ_=>rfl) ?_ ?_ ?_
   ·intro i hi;obtain ⟨v1,h1,_,h3⟩:=Gd i hi;rw [h3,h1]
   ·intro i j hi hj;have hb:v.ownBlock=some g:=by rw [hE];rfl
    have zL:i *I.size+j<cells.length:=by
     rw [hlen];calc i *I.size+j<i *I.size+I.size:=by omega
      _=(i+1) *I.size:=by rw [abR]
      _<=xs.length *I.size:=adx _ hi
    rw [acu];unfold kj;simp only [hb,zL,and_self,if_true];rw [abT];simp only [hj,if_true,abQ]
   ·intro i hi;obtain ⟨v1,_,h2,h3⟩:=Gd i hi;rw [h3];exact h2
def KN (φ:Ph)(b:Nat)(vs:List Value):Ph:=λb' o=>if b'=b then vs[o]? else φ b' o
theorem H7 {b:Nat}{vs:List Value}(h: ∀o,φ b o=none):gZ φ (KN φ b vs):=by
 intro b' o u hu;unfold KN;by_cases hb:b'=b
 ·subst hb;rw [h] at hu;cases hu
 ·rw [if_neg hb];exact hu
theorem De {b:Nat}{vs:List Value}{T:TypeId}(hi:oS φ W)(hh:W.heap[b]? =some (.cells vs.toArray T (0,0))):oS (KN φ b vs) W:=by
 intro b' o u hu;unfold KN at hu;by_cases hb:b'=b
 ·subst hb;rw [if_pos rfl] at hu;rw [cell_of hh];simpa using hu
 ·rw [if_neg hb] at hu;exact hi _ _ _ hu
theorem P7.still {v:Six}(h:P7 c Z φ W bc ty s v)(hi:oS φ W): ∃φ',gZ φ φ'/\oS φ' W/\(∀b o,¬Z b->φ' b o=φ b o)/\ga c.key φ' (v.vs s) s.ls/\ ∀j,j<6->φ' bc j=(v.vs s)[j]? :=by
 obtain ⟨φ1,k1,k2,k3,k4⟩:=h.n.still hi;obtain ⟨T,hh⟩:=h.heap;have ou: ∀o,φ1 bc o=none:=λo=>by rw [k3 bc o h.off];exact h.free o
 have hle:=H7 (vs:=v.vs s) ou;have hz: ∀b,v.n.ownBlock=some b->Z b:=by obtain ⟨I,cells,_,_,_,_,q5⟩:=h.n.row;exact λb hb=>(q5 b hb).1
 refine ⟨KN φ1 bc (v.vs s),k1.trans hle,De k2 hh,λb o hb=> ?_,?_,λj hj=>by simp [KN]⟩
 ·have h1:b≠bc:=λe=>hb (by rw [e];exact h.ch);unfold KN;rw [if_neg h1];exact k3 b o λe=>hb (hz b e)
 ·have m:=k1.trans hle;exact .cons [_] _ _ _ (.i _ _) (.cons [_] _ _ _ (.i _ _) (.cons [_] _ _ _ (h.b.mono m) (.cons [_] _ _ _ (h.w.mono m) (.cons [_] _ _ _ (k4.mono hle) (.cons [_] _ _ _ (h.p.mono m) .nil)))))
end
def H8 (W:World)(b:Nat)(v:Int):Prop:= ∃T,W.heap[b]? =some (.cells #[.int .i64 v] T (0,0))
structure CI0 (c:Ctx) (φ0:Ph) (w0:World) (φ1:Ph) (bc bv br f ty:Nat) (s:CS) (v:Int) (W:World) (Z:Nat->Prop) (φ:Ph):Prop where
 cell:gf c Z φ W bc (KS f ty) s.ls
 kZ:oS φ W
 tr:Trans (λb=>w0.heap.size<=b) φ0 w0 φ W
 base:gZ φ1 φ
 sub: ∀b,Z b->w0.heap.size<=b
 hv:H8 W bv v
 zv: ¬Z bv
 fv: ∀o,φ bv o=none
 nv:w0.heap.size<=bv
 hr: ∃arr T,W.heap[br]? =some (.cells arr T (0,0))/\arr.size=6
 zr: ¬Z br
 fr: ∀o,φ br o=none
 nr:w0.heap.size<=br
 ne:br≠bv
def CI (c:Ctx) (φ0:Ph)(w0:World) (φ1:Ph)(bc bv br f ty:Nat)(s:CS)(v:Int)(W:World):Prop:= ∃Z φ,CI0 c φ0 w0 φ1 bc bv br f ty s v W Z φ
section
variable {P:Program}{c:Ctx} {φ0 φ1:Ph} {w0 W W':World}{bc bv br f ty:Nat} {s s':CS} {v v':Int}{Z:Nat->Prop} {φ:Ph}
theorem AX {W W':World}{b:Nat}{o:Nat}{u:Value}(h:W.cell? ⟨b,o,none⟩=some u)(hs:b<W.heap.size->W'.heap[b]? =W.heap[b]?):W'.cell? ⟨b,o,none⟩=some u:=by have hl:=aaW W _ h;rw [adw (hs hl)];exact h
theorem CI0.same (h:CI0 c φ0 w0 φ1 bc bv br f ty s v W Z φ)(hs:W.heap.size<=W'.heap.size)(hr:Rest W W')(hold: ∀b,b<W.heap.size->b≠bv->W'.heap[b]? =W.heap[b]?)(hv:H8 W' bv v'):CI0 c φ0 w0 φ1 bc bv br f ty s v' W' (λb=>Z b/\b<W.heap.size) φ:=by
 have hzv: ∀b,Z b->b≠bv:=λb hb e=>h.zv (by rw [<-e];exact hb);obtain ⟨arr,T,DZ,O6⟩:=h.hr;refine ⟨h.cell.frame hs λb hb hl=>hold b hl (hzv b hb),λb o u hu=> ?_,⟨h.tr.ph,λb hb hl=> ?_,h.tr.free,acv h.tr.size hs,h.tr.rest.trans hr⟩,h.base,λb hb=>h.sub b hb.1,hv,λhb=>h.zv hb.1,h.fv,h.nv,⟨arr,T,?_,O6⟩,λhb=>h.zr hb.1,h.fr,h.nr,h.ne⟩
 ·refine AX (h.kZ b o u hu) λhl=>hold b hl λe=> ?_;rw [e,h.fv] at hu;cases hu
 ·have sv:b<W.heap.size:=acC hl h.tr.size;rw [hold b sv (λe=>hb (by rw [e];exact h.nv))];exact h.tr.heap b hb hl
 ·rw [hold br (aZ DZ) h.ne];exact DZ
theorem H8.same {b:Nat}{v:Int}(h:H8 W b v)(he:b<W.heap.size->W'.heap[b]? =W.heap[b]?):H8 W' b v:=by obtain ⟨T,hT⟩:=h;exact ⟨T,by rw [he (aZ hT)];exact hT⟩
theorem CI0.grow {φ2 φ3:Ph}(h:CI0 c φ0 w0 φ1 bc bv br f ty s v W Z φ)(ht:Trans (λb=>W.heap.size<=b) φ2 W φ3 W'):CI0 c φ0 w0 φ1 bc bv br f ty s v W' (λb=>Z b/\b<W.heap.size) φ:=h.same ht.size ht.rest (λb hl _=>ht.heap b (by omega) hl) (h.hv.same λhl=>ht.heap bv (by omega) hl)
theorem H8.cell {b:Nat}{v:Int}(h:H8 W b v):W.cell? ⟨b,0,none⟩=some (.int .i64 v):=by obtain ⟨T,hT⟩:=h;rw [cell_of hT];rfl
theorem CI.call {g:Nat}{vs:List Value}{ms:List MV}{r:MV}(h:CI c φ0 w0 φ1 bc bv br f ty s v W)(hg:c.dA (c.key g)=true)(xw:c.sig (c.key g)=some (0,KS f ty))(hS:gh P c g (.cell (.func 0 s.ls)::ms) (.ef r s'.ls))(dL: ∀φ,gZ φ1 φ->oS φ W->bg c.key φ vs ms):dR P g (.pointer (some ⟨bc,0,none⟩)::vs).toArray W λ_ W'=>CI c φ0 w0 φ1 bc bv br f ty s' v W':=by
 obtain ⟨Z,φ,h⟩:=h;have cI: ∀b,(∃arr T,W.heap[b]? =some (.cells arr T (0,0)))->b<W.heap.size:=λb ⟨arr,T,hb⟩=>aZ hb;have pI:bv<W.heap.size:=by obtain ⟨T,hT⟩:=h.hv;exact aZ hT
 obtain ⟨arr,T,DZ,O6⟩:=h.hr;have hlr:=aZ DZ;have rL:gf c (λb=>Z b\/W.heap.size<=b) φ W bc (KS f ty) s.ls:=h.cell.wide λb hb=> .inl hb;have rX:dS c (λb=>Z b\/W.heap.size<=b) φ W (c.key g) (.pointer (some ⟨bc,0,none⟩)::vs) (.cell (.func 0 s.ls)::ms):=by simp only [dS,hg,if_true];exact .inr (.inr ⟨0,KS f ty,0,s.ls,bc,xw,rfl,rfl,⟨_,_,rfl,⟨rfl,.rp bc 0 [] [] .nil (by simp)⟩,dL φ h.base h.kZ⟩,rL⟩)
 refine (hS φ W (λb=>Z b\/W.heap.size<=b) _ (λb hb=> .inr hb) rX h.kZ).imp ?_;rintro x W' ⟨φ',t1,t2,pK,pos',ks',akg,Rn,yu,Ry,hc⟩;rw [xw] at yu;simp only [bN,ac3] at yu;obtain ⟨rfl,rfl⟩:=yu;simp only [List.getElem?_cons_zero,bN,agf,Addr.mk.injEq] at Ry;obtain ⟨rfl,_⟩:=Ry;have hzv: ¬(Z bv\/W.heap.size<=bv):=λhb=>hb.elim h.zv (by omega);have hzr: ¬(Z br\/W.heap.size<=br):=λhb=>hb.elim h.zr (by omega);refine ⟨_,φ',hc,t2,h.tr.trans (t1.zW λb hb=>hb.elim (h.sub b) (λhb=>acv h.tr.size hb)),h.base.trans t1.ph,λb hb=>hb.elim (h.sub b) (λhb=>acv h.tr.size hb),h.hv.same λhl=>t1.heap bv hzv hl,hzv,λo=>by rw [t1.free bv o hzv];exact h.fv o,h.nv,⟨arr,T,by rw [t1.heap br hzr hlr];exact DZ,O6⟩,hzr,λo=>by rw [t1.free br o hzr];exact h.fr o,h.nr,h.ne⟩
theorem CI.ajK {φ2:Ph}(h:CI c φ0 w0 φ2 bc bv br f ty s v W)(hp:gZ φ1 φ2):CI c φ0 w0 φ1 bc bv br f ty s v W:=by obtain ⟨Z,φ,h⟩:=h;exact ⟨Z,φ,{h with base:=hp.trans h.base}⟩
theorem Eu {g:Nat}{vs:List Value}{ms:List MV}{r:MV}(hg:c.dA (c.key g)=false)(hS:gh P c g ms r)(hr:isW r=false)(dL:bg c.key φ vs ms)(hi:oS φ W):dR P g vs.toArray W λx W'=> ∃φ',Trans (λb=>W.heap.size<=b) φ W φ' W'/\oS φ' W'/\jR c (λb=>W.heap.size<=b) φ' W' (c.key g) x r:=by
 have rX:dS c (λb=>W.heap.size<=b) φ W (c.key g) vs ms:=by simp only [dS,hg,AI,if_false];exact dL
 refine (hS φ W (λb=>W.heap.size<=b) _ (λb hb=>hb) rX hi).imp ?_;rintro x W' ⟨φ',t1,t2,t3⟩;exact ⟨φ',t1,t2,t3.of hr⟩
end
end Dn
/-
  A walk that lets all good ones hear one another: what it does, and its code. Conditions: none.
-/
namespace Dn
open Go
structure CK where
 cl:Nat
 ld:Nat
 is:Nat
 f1:Nat
 en:Nat
 de:Nat
 le:Nat
 sz:Nat
section
variable (g:Nat->List MV->Option MV)(k:CK)
end
structure amW (tS tP ti tN tM tm tZ tB tb tf fCl f1 fEa fLd fIs f2 f3 fLe:Nat) (o:Nat->Oper):Prop where
 h0:ak (o 0) 1 (.box tS (.tmp 0))
 h1:ak (o 1) 2 (.alloc tS)
 h2:ak (o 2) 3 (.alloc tP)
 h3:gq (o 3) (.store tP (.tmp 3) (.tmp 1))
 h4:ak (o 4) 7 (.fieldAddr tS (.tmp 1) 3)
 h5:ak (o 5) 8 (.load tN (.tmp 7))
 h6:ak (o 6) 9 (.call {callee:= .value (.func fCl),args:= #[.tmp 8],argTypes:= #[tN]})
 h7:ak (o 7) 10 (.fieldAddr tS (.tmp 1) 4)
 h8:gq (o 8) (.store tM (.tmp 10) (.const (.slice none 0 0)))
 h9:ak (o 9) 11 (.fieldAddr tS (.tmp 1) 3)
 B9:gq (o 10) (.store tN (.tmp 11) (.tmp 9))
 FC:ak (o 11) 4 (.alloc ti)
 FD:gq (o 12) (.store ti (.tmp 4) (.const (.int .i64 0)))
 FE:ak (o 13) 12 (.load tP (.tmp 3))
 FF:ak (o 14) 13 (.makeFunc (.func f1) #[] #[.tmp 4,.tmp 1])
 FG:ak (o 15) 14 (.call {callee:= .value (.func fEa),args:= #[.tmp 12,.tmp 13],argTypes:= #[tP,tf]})
 FH:ak (o 16) 15 (.load tS (.tmp 1))
 Ko:ak (o 17) 16 (.fieldAddr tS (.tmp 1) 0)
 NT:ak (o 18) 17 (.load tZ (.tmp 16))
 OR:ak (o 19) 18 (.load ti (.tmp 4))
 OS:ak (o 20) 19 (.call {callee:= .value (.func fLd),args:= #[.tmp 17,.tmp 18],argTypes:= #[tZ,ti]})
 L6:ak (o 21) 20 (.call {callee:= .value (.func fIs),args:= #[.tmp 15,.tmp 19,.const (.bool false)],argTypes:= #[tS,ti,tB]})
 L7:ak (o 22) 21 (.unOp .not tB (.tmp 20))
 L8:ak (o 23) 22 (.load ti (.tmp 4))
 L9:ak (o 24) 23 (.binOp .add ti (.tmp 22) (.const (.int .i64 1)) ti)
 Ma:gq (o 25) (.store ti (.tmp 4) (.tmp 23))
 PZ:ak (o 26) 24 (.load ti (.tmp 4))
 Sh:ak (o 27) 25 (.binOp .gtr ti (.tmp 24) (.const (.int .i64 100000)) ti)
 Si:ak (o 28) 26 (.load tS (.tmp 1))
 Sj:gq (o 29) (.store tS (.tmp 2) (.tmp 26))
 P0:ak (o 30) 27 (.load tP (.tmp 3))
 Q9:ak (o 31) 28 (.makeFunc (.func f2) #[] #[.tmp 3,.tmp 4])
 Ra:ak (o 32) 29 (.call {callee:= .value (.func fEa),args:= #[.tmp 27,.tmp 28],argTypes:= #[tP,tf]})
 Rb:ak (o 33) 5 (.assign (.const (.int .i64 0)))
 Sk:ak (o 34) 30 (.move (.tmp 5))
 Ub:ak (o 35) 31 (.fieldAddr tS (.tmp 1) 4)
 VY:ak (o 36) 32 (.load tM (.tmp 31))
 Uc:ak (o 37) 33 (.call {callee:= .builtin .len,args:= #[.tmp 32],argTypes:= #[tM]})
 VZ:ak (o 38) 34 (.binOp .lss ti (.tmp 30) (.tmp 33) ti)
 h39:ak (o 39) 37 (.fieldAddr tS (.tmp 1) 4)
 h40:ak (o 40) 38 (.load tM (.tmp 37))
 h41:ak (o 41) 39 (.move (.tmp 5))
 h42:ak (o 42) 40 (.indexAddr tM (.tmp 38) (.tmp 39))
 h43:ak (o 43) 41 (.load tm (.tmp 40))
 h44:ak (o 44) 6 (.alloc tm)
 h45:gq (o 45) (.store tm (.tmp 6) (.tmp 41))
 h46:ak (o 46) 42 (.load tP (.tmp 3))
 ZH:ak (o 47) 43 (.makeFunc (.func f3) #[] #[.tmp 3,.tmp 6])
 Yz:ak (o 48) 44 (.call {callee:= .value (.func fEa),args:= #[.tmp 42,.tmp 43],argTypes:= #[tP,tf]})
 h49:ak (o 49) 45 (.load tP (.tmp 3))
 V0:ak (o 50) 46 (.fieldAddr tS (.tmp 1) 0)
 h51:ak (o 51) 47 (.load tZ (.tmp 46))
 h52:ak (o 52) 48 (.load ti (.tmp 4))
 h53:ak (o 53) 49 (.call {callee:= .value (.func fLd),args:= #[.tmp 47,.tmp 48],argTypes:= #[tZ,ti]})
 ZI:ak (o 54) 50 (.call {callee:= .value (.func fLe),args:= #[.tmp 45,.tmp 49],argTypes:= #[tP,ti]})
 h55:ak (o 55) 35 (.move (.tmp 5))
 h56:ak (o 56) 36 (.binOp .add ti (.tmp 35) (.const (.int .i64 1)) ti)
 h57:ak (o 57) 5 (.assign (.tmp 36))
 h58:ak (o 58) 51 (.load tS (.tmp 1))
 h59:gq (o 59) (.store tS (.tmp 2) (.tmp 51))
end Dn
/-
  The walk's pieces: who leads. Conditions: none.
-/
namespace Dn
open Go
structure CN where
 tS:Nat
 tP:Nat
 ti:Nat
 tN:Nat
 tM:Nat
 tm:Nat
 tZ:Nat
 tB:Nat
 tb:Nat
 tf:Nat
 fCl:Nat
 f1:Nat
 fEa:Nat
 fLd:Nat
 fIs:Nat
 f2:Nat
 f3:Nat
 fLe:Nat
 fEn:Nat
 fDe:Nat
 f:Nat
 iK:Nat
 ty:Nat
 sz:Nat
def CN.k (n:CN):CK:=⟨n.fCl,n.fLd,n.fIs,n.f1,n.fEn,n.fDe,n.fLe,n.sz⟩
structure Fv (σ:Nat->Value) (bc br bd bv:Nat):Prop where
 h1:σ 1= .pointer (some ⟨bc,0,none⟩)
 h2:σ 2= .pointer (some ⟨br,0,none⟩)
 h3:σ 3= .pointer (some ⟨bd,0,none⟩)
 h4:σ 4= .pointer (some ⟨bv,0,none⟩)
theorem wOf {w:World}{g off:Nat}{vs:List Value}{arr:List Value}{T:TypeId}(hh:w.heap[g]? =some (.cells arr.toArray T (0,0)))(h: ∀j,j<vs.length->arr[off+j]? =vs[j]?):w.rangeAt g off vs:=by intro j v hj;rw [cell_of hh,List.getElem?_toArray,h j (acX.1 hj).1];exact hj
theorem Z3 {key:Nat->Nat} {φ:Ph}{v:Value}{n:Int}(h:di key φ v (.i .i64 n)):v= .int .i64 n:=by obtain ⟨_,h⟩:=h;generalize yt:[v]=l at h;cases h;simpa using yt
theorem z8 {key:Nat->Nat} {φ:Ph}{n:Int}:di key φ (.int .i64 n) (.i .i64 n):=⟨rfl,.i _ _⟩
theorem P8 {key:Nat->Nat} {φ:Ph}{vs:List Value}{ms:List MV}(h:ga key φ vs ms):di key φ (.agg vs.toArray) (.agg ms):=⟨vs.toArray,rfl,by simpa using h⟩
section
variable {P:Program}{c:Ctx}{g:Nat->List MV->Option MV}{n:CN}{fn:Func}{r:Nat->Nat}{o:Nat->Oper} {φ0 φ1:Ph}{w0 W:World}{bc br bd bv:Nat} {s s':CS} {v v' l:Int}{a:Act} {σ:Nat->Value}{Q:Exit->Act->World->Prop}
abbrev CIn (c:Ctx)(n:CN) (φ0:Ph)(w0:World) (φ1:Ph)(bc bv br:Nat)(s:CS)(v:Int)(W:World):Prop:=CI c φ0 w0 φ1 bc bv br n.iK n.ty s v W
end
end Dn
/-
  The walk's pieces: the search for a leader; each one's step. Conditions: none.
-/
namespace Dn
open Go
section
variable {P:Program}{c:Ctx}{g:Nat->List MV->Option MV}{n:CN}{fn:Func}{r:Nat->Nat}{o:Nat->Oper} {φ0 φ1:Ph} {w0 W W':World}{bc br bd bv:Nat} {s s':CS} {v v' l:Int}{a:Act} {σ:Nat->Value}{Q:Exit->Act->World->Prop}
end
end Dn
/-
  The walk's pieces: a turn, and the end. Conditions: none.
-/
namespace Dn
open Go
section
variable {P:Program}{c:Ctx}{g:Nat->List MV->Option MV}{n:CN}{fn:Func}{r:Nat->Nat}{o:Nat->Oper} {φ0 φ1:Ph} {w0 W W':World}{bc br bd bv:Nat} {s s':CS} {v v' l:Int}{a:Act} {σ:Nat->Value}{Q:Exit->Act->World->Prop}
theorem CI0.new {Z:Nat->Prop} {φ:Ph}{vs:List Value}{T:TypeId}(h:CI0 c φ0 w0 φ1 bc bv br n.iK n.ty s v W Z φ)(hh:W'.heap[W.heap.size]? =some (.cells vs.toArray T (0,0)))(hs:W.heap.size<=W'.heap.size)(hold: ∀b,b<W.heap.size->W'.heap[b]? =W.heap[b]?)(hr:Rest W W'): CIn c n φ0 w0 (KN φ W.heap.size vs) bc bv br s v W':=by
 have ou: ∀o,φ W.heap.size o=none:=by
  intro o;cases hq:φ W.heap.size o with
  |none=>rfl
  |some u=>exact absurd (aaW W _ (h.kZ _ _ _ hq)) (Nat.lt_irrefl _)
 have hle:=H7 (vs:=vs) ou;have iM:=h.same (v':=v) hs hr (λb hb _=>hold b hb) (h.hv.same λhl=>hold bv hl);have pI:bv<W.heap.size:=by obtain ⟨T,hT⟩:=h.hv;exact aZ hT
 have hlr:br<W.heap.size:=by obtain ⟨arr,T,hT,_⟩:=h.hr;exact aZ hT
 have cR: ∀b o,b<W.heap.size->KN φ W.heap.size vs b o=φ b o:=λb o hb=>by unfold KN;rw [if_neg (Nat.ne_of_lt hb)]
 refine ⟨_,_,iM.cell.more hle λb o hb=>cR b o hb.2,De iM.kZ hh,⟨iM.tr.ph.trans hle,iM.tr.heap,λb o hb=> ?_,iM.tr.size,iM.tr.rest⟩,.refl _,iM.sub,iM.hv,iM.zv,λo=>by rw [cR _ _ pI];exact h.fv o,h.nv,iM.hr,iM.zr,λo=>by rw [cR _ _ hlr];exact h.fr o,h.nr,h.ne⟩;have:b<W.heap.size:=by have:=h.tr.size;omega
 rw [cR _ _ this];exact h.tr.free b o hb
theorem FI {key:Nat->Nat} {φ:Ph}{x:Value}{xs:List MV}(h:gY key φ [x] (.list xs)): ∃ad cp,x= .slice ad xs.length cp/\ ∀k (hk:k<xs.length),∃a8 off Fb vm,ad=some ⟨a8,off,none⟩/\vm.length=Fb/\gY key φ vm xs[k]/\ ∀j,j<Fb->φ a8 (off+k *Fb+j)=vm[j]? :=by
 generalize hv:[x]=l at h;generalize hm:MV.list xs=m at h;cases h with
 |list a cap ys a8 off Fb f h1 h2 h3 h4 h5=>cases hm;refine ⟨a,cap,by simpa using hv,λk hk=>⟨a8,off,Fb,f k,h2 (by omega),h3 k hk,h5 k hk,λj hj=>h4 k j hk hj⟩⟩
 |_=>cases hm
theorem GS {d:Nat}{op:Op}{p:Oper}(hp:ak p d op)(cR: ∀t,op≠ .alloc t):Ga p=false:=by unfold Ga;rw [hp.op];cases op<;>first|rfl|exact absurd rfl (cR _)
end
end Dn
/-
  Parts that are taken off bytes, into a variable of eight parts, by way of pointers: what it does. Conditions: none.
-/
namespace Dn
open Go
structure P9 where
 xs:List MV
 e:Int
 os:List MV
structure TkF where
 ti:Nat
 tx:Nat
 may:Nat
section
variable (g:Nat->List MV->Option MV)(k:TkF)
def tkI (j:Nat)(q:P9):Option P9:=if q.e=0 then (match g k.ti [.list q.xs] with
 |some (.b8 [.i .i64 n,.list xs,.i .i64 e])=>some ⟨xs,e,q.os.set j (.i .i64 n)⟩
 |_=>none) else some q
def Qa (j:Nat)(most:Int)(q:P9):Option P9:=if q.e=0 then (match g k.tx [.list q.xs,.i .i64 most] with
 |some (.b8 [.s l,.list xs,.i .i64 e])=>some ⟨xs,e,q.os.set j (.s l)⟩
 |_=>none) else some q
def Ew:List Nat->P9->Option P9
 |[],q=>some q
 |j::r,q=>(match tkI g k j q with
  |some q=>Ew r q
  |none=>none)
def XI:List MV:=[.i .i64 0,.i .i64 0,.i .i64 0,.s [],.s [],.i .i64 0,.i .i64 0,.i .i64 0]
def Qb (xs:List MV):Option MV:=match Ew g k [0,1,2,5,6,7] ⟨xs,0,XI⟩ with
 |some q=>(match Qa g k 3 100 q with
  |some q=>(match Qa g k 4 1000 q with
   |some q=>if q.e=0 then (match g k.may [.agg q.os] with
    |some (.b true)=>some (.b8 [.agg q.os,.list q.xs,.i .i64 0])
    |some (.b false)=>some (.b8 [.agg XI,.list [],.i .i64 3])
    |_=>none) else some (.b8 [.agg XI,.list [],.i .i64 q.e])
   |none=>none)
  |none=>none)
 |none=>none
end
theorem bg.set {key:Nat->Nat} {φ:Ph}{v:Value}{m:MV}(h:di key φ v m): ∀{ms:List MV} {vs:List Value} {j:Nat},bg key φ vs ms->bg key φ (vs.set j v) (ms.set j m):=by
 intro ms;induction ms with
 |nil=>intro vs j hh;have hh:vs=[]:=hh;subst hh;rfl
 |cons m' ms ih=>
  intro vs j hh;obtain ⟨v',r,rfl,h1,h2⟩:=hh;cases j with
  |zero=>exact ⟨v,r,rfl,h,h2⟩
  |succ j=>exact ⟨v',r.set j v,rfl,h1,ih h2⟩
theorem bg.len {key:Nat->Nat} {φ:Ph}: ∀{ms:List MV} {vs:List Value},bg key φ vs ms->vs.length=ms.length:=by
 intro ms;induction ms with
 |nil=>intro vs h;have h:vs=[]:=h;subst h;rfl
 |cons m ms ih=>intro vs h;obtain ⟨v,r,rfl,_,h2⟩:=h;simp [ih h2]
structure xc (c:Ctx) (φ0:Ph) (w0:World) (φ:Ph) (W:World) (q:P9) (vs:List Value):Prop where
 kZ:oS φ W
 tr:Trans (λb=>w0.heap.size<=b) φ0 w0 φ W
 h2: ∃zs T,W.heap[w0.heap.size]? =some (.cells zs T (0,0))/\zs.size=8
 hr: ∃vb T,W.heap[w0.heap.size+1]? =some (.cells [vb,.int .i64 q.e].toArray T (0,0))/\gY c.key φ [vb] (.list q.xs)
 ho: ∃T,W.heap[w0.heap.size+2]? =some (.cells vs.toArray T (0,0))
 os:bg c.key φ vs q.os
 n:vs.length=8
 f: ∀j o,j<3->φ (w0.heap.size+j) o=none
section
variable {P:Program}{c:Ctx} {φ0 φ φ':Ph} {w0 W W':World}{q:P9}{vs:List Value}
theorem xc.grow (h:xc c φ0 w0 φ W q vs)(t:Trans (λb=>W.heap.size<=b) φ W φ' W')(hi:oS φ' W'):xc c φ0 w0 φ' W' q vs:=by obtain ⟨zs,T2,a1,a2⟩:=h.h2;obtain ⟨vb,Tr,b1,b2⟩:=h.hr;obtain ⟨To,c1⟩:=h.ho;have pJ:=aZ c1;have hold: ∀b,b<W.heap.size->W'.heap[b]? =W.heap[b]? :=λb hb=>t.heap b (by omega) hb;refine ⟨hi,h.tr.trans (t.zW λb hb=>by have:=h.tr.size;omega),⟨zs,T2,by rw [hold _ (by omega)];exact a1,a2⟩,⟨vb,Tr,by rw [hold _ (by omega)];exact b1,b2.mono t.ph⟩,⟨To,by rw [hold _ (by omega)];exact c1⟩,h.os.mono t.ph,h.n,λj o hj=> ?_⟩;rw [t.free _ o (by omega)];exact h.f j o hj
theorem xc.wrote {q':P9}{KC:List Value}(h:xc c φ0 w0 φ W q vs){j:Nat}(hj:j<3)(hs:W'.heap.size=W.heap.size)(hr:Rest W W')(ho: ∀b,b≠w0.heap.size+j->W'.heap[b]? =W.heap[b]?)(h2: ∃zs T,W'.heap[w0.heap.size]? =some (.cells zs T (0,0))/\zs.size=8)(hb: ∃vb T,W'.heap[w0.heap.size+1]? =some (.cells [vb,.int .i64 q'.e].toArray T (0,0))/\gY c.key φ [vb] (.list q'.xs))(hv: ∃T,W'.heap[w0.heap.size+2]? =some (.cells KC.toArray T (0,0)))(hos:bg c.key φ KC q'.os)(hn:KC.length=8):xc c φ0 w0 φ W' q' KC:=by
 refine ⟨λb o u hu=>AX (h.kZ b o u hu) λhl=>ho b λe=> ?_,⟨h.tr.ph,λb hb hl=> ?_,h.tr.free,by rw [hs];exact h.tr.size,h.tr.rest.trans hr⟩,h2,hb,hv,hos,hn,h.f⟩
 ·rw [e,h.f j o hj] at hu;cases hu
 ·rw [ho b (by omega)];exact h.tr.heap b hb hl
theorem xc.ao4 (h:xc c φ0 w0 φ W q vs){j:Nat}{v:Value}{m:MV}(hm:di c.key φ v m):xc c φ0 w0 φ (W.setRow (w0.heap.size+2) (vs.set j v).toArray) ⟨q.xs,q.e,q.os.set j m⟩ (vs.set j v):=by obtain ⟨zs,T2,a1,a2⟩:=h.h2;obtain ⟨vb,Tr,b1,b2⟩:=h.hr;obtain ⟨To,c1⟩:=h.ho;refine h.wrote (j:=2) (by decide) (setRow_size _ _ _) (.setRow _ _ _) (λb hb=>setRow_other _ _ _ _ hb) ⟨zs,T2,by rw [setRow_other _ _ _ _ (by omega)];exact a1,a2⟩ ⟨vb,Tr,by rw [setRow_other _ _ _ _ (by omega)];exact b1,b2⟩ ⟨To,gV _ c1⟩ (h.os.set hm) (by simp [h.n])
theorem xc.Bh (h:xc c φ0 w0 φ W q vs){v:Value}{xs:List MV}(hm:gY c.key φ [v] (.list xs)):xc c φ0 w0 φ (W.setRow (w0.heap.size+1) [v,.int .i64 q.e].toArray) ⟨xs,q.e,q.os⟩ vs:=by obtain ⟨zs,T2,a1,a2⟩:=h.h2;obtain ⟨vb,Tr,b1,b2⟩:=h.hr;obtain ⟨To,c1⟩:=h.ho;exact h.wrote (j:=1) (by decide) (setRow_size _ _ _) (.setRow _ _ _) (λb hb=>setRow_other _ _ _ _ hb) ⟨zs,T2,by rw [setRow_other _ _ _ _ (by omega)];exact a1,a2⟩ ⟨v,Tr,gV _ b1,hm⟩ ⟨To,by rw [setRow_other _ _ _ _ (by omega)];exact c1⟩ h.os h.n
theorem xc.Qc (h:xc c φ0 w0 φ W q vs){vb:Value}(e:Int)(hb:gY c.key φ [vb] (.list q.xs)):xc c φ0 w0 φ (W.setRow (w0.heap.size+1) [vb,.int .i64 e].toArray) ⟨q.xs,e,q.os⟩ vs:=by obtain ⟨zs,T2,a1,a2⟩:=h.h2;obtain ⟨vb',Tr,b1,b2⟩:=h.hr;obtain ⟨To,c1⟩:=h.ho;exact h.wrote (j:=1) (by decide) (setRow_size _ _ _) (.setRow _ _ _) (λb hb=>setRow_other _ _ _ _ hb) ⟨zs,T2,by rw [setRow_other _ _ _ _ (by omega)];exact a1,a2⟩ ⟨vb,Tr,gV _ b1,hb⟩ ⟨To,by rw [setRow_other _ _ _ _ (by omega)];exact c1⟩ h.os h.n
theorem H9 {t:TypeId}{I:TI}{x y:Operand}{e:Operand->Value}{g off:Nat}{v:Value}{ls:List Value}{T:TypeId}{o:Oper}(ho:gq o (.store t x y))(hT:ia P c.ti)(hI:c.tv t=some I)(hs:I.size=1)(hx:e x= .pointer (some ⟨g,off,none⟩))(hy:e y=v)(hc:v.cells.toList=[v])(h1:v.oneCell'=true)(cz:W.heap[g]? =some (.cells ls.toArray T (0,0)))(zL:off<ls.length):(execOp e o).run P W= .ok .skip (W.setRow g (ls.set off v).toArray):=by
 obtain ⟨lQ,CD⟩:=bj hI;rw [GR (v:=v) ho (hT _ _ lQ) CD hx hy (by rw [hc,hs];rfl) (by rw [hc];simpa using h1) cz (by rw [hs];simp;omega),hc,hs];congr 2;have:ls.set off v=ls.take off++v::ls.drop (off+1):=by rw [List.set_eq_take_append_cons_drop,if_pos zL]
 rw [this];simp
end
end Dn
/-
  Numbers, and a text, that are taken off: the walks. Conditions: none.
-/
namespace Dn
open Go
structure XJ where
 tO:Nat
 tY:Nat
 te:Nat
 tR:Nat
 tQ:Nat
 tL:Nat
 tI:Nat
 tX:Nat
 ti:Nat
 tS:Nat
 tB:Nat
structure ady (P:Program) (c:Ctx) (g:Nat->List MV->Option MV) (k:TkF) (t:XJ):Prop where
 hT:ia P c.ti
 key: ∀f,c.key f=f
 snd: ∀f ms r,g f ms=some r->gh P c f ms r
 gv:c.dA k.ti=false/\c.dA k.tx=false/\c.dA k.may=false
 tyO: ∃I,c.tv t.tO=some I/\I.st=true/\I.yS=[0,1,2,3,4,5,6,7]/\I.size=8
 tyR: ∃I,c.tv t.tR=some I/\I.st=true/\I.yS=[0,1]/\I.size=2
 tyY: ∃I,c.tv t.tY=some I/\I.st=false/\I.size=1
 tye: ∃I,c.tv t.te=some I/\I.st=false/\I.size=1
 tyi: ∃I,c.tv t.ti=some I/\I.st=false/\I.size=1
 tyS: ∃I,c.tv t.tS=some I/\I.st=false/\I.size=1
 tyI: ∃I,c.tv t.tI=some I/\I.st=false/\I.size=1
 adz:P.underlying t.tL=some (.slice t.tI)
theorem wB {P:Program}{o:Oper}{d j:Nat}{x:Operand}{e:Operand->Value}{arr:Array Value}{v:Value}(ho:ak o d (.extract x j))(hx:e x= .tuple arr)(hj:arr[j]? =some v)(w:World):(execOp e o).run P w= .ok (.value v) w:=by simp [execOp,ho.op,hx,Instr.extract,hj]
theorem bg.three {key:Nat->Nat} {φ:Ph}{arr:Array Value}{a b d:MV}(h:bg key φ arr.toList [a,b,d]): ∃x y z,arr[0]? =some x/\arr[1]? =some y/\arr[2]? =some z/\di key φ x a/\di key φ y b/\di key φ z d:=by obtain ⟨x,r,e1,h1,y,r2,e2,h2,z,r3,e3,h3,e4⟩:=h;have e4:r3=[]:=e4;subst e2 e3 e4;refine ⟨x,y,z,?_,?_,?_,h1,h2,h3⟩<;>rw [<-adh,e1]<;>rfl
theorem afJ {key:Nat->Nat} {φ:Ph}{v:Value}{xs:List MV}(h:di key φ v (.list xs)):gY key φ [v] (.list xs)/\v.cells.toList=[v]/\v.oneCell'=true:=by have h:MV.one (.list xs)=true/\gY key φ [v] (.list xs):=h;obtain ⟨ad,cp,rfl,_⟩:=FI h.2;exact ⟨h.2,rfl,rfl⟩
def Ia (r:Nat->Nat)(o:Nat->Oper):Code:= .seq (.region (r 0) #[o 0,o 1,o 2] false) (.block 0 (.loop (.seq (.region (r 1) #[o 3] false) (.seq (.cond (.tmp 9) .skip (.exit 0)) (.seq (.block 1 (.seq (.region (r 2) #[o 4,o 5,o 6] false) (.seq (.region (r 3) #[o 7,o 8,o 9,o 10,o 11] false) (.cond (.tmp 16) (.region (r 4) #[o 12,o 13,o 14,o 15,o 16,o 17,o 18,o 19,o 20,o 21,o 22,o 23,o 24,o 25,o 26,o 27,o 28,o 29,o 30,o 31] false) .skip)))) (.region (r 5) #[o 32,o 33] false))))))
structure adA (t:XJ) (fTI:Nat) (o:Nat->Oper):Prop where
 h0:ak (o 0) 6 (.move (.tmp 1))
 h1:ak (o 1) 7 (.call {callee:= .builtin .len,args:= #[.tmp 6],argTypes:= #[t.tL]})
 h2:ak (o 2) 8 (.move (.const (.int .i64 0)))
 h3:ak (o 3) 9 (.binOp .lss t.ti (.tmp 8) (.tmp 7) t.ti)
 h4:ak (o 4) 10 (.indexAddr t.tL (.tmp 6) (.tmp 8))
 h5:ak (o 5) 11 (.load t.tI (.tmp 10))
 h6:ak (o 6) 5 (.assign (.tmp 11))
 h7:ak (o 7) 12 (.move (.tmp 0))
 h8:ak (o 8) 13 (.nilCheck (.tmp 12))
 h9:ak (o 9) 14 (.fieldAddr t.tR (.tmp 13) 1)
 B9:ak (o 10) 15 (.load t.te (.tmp 14))
 FC:ak (o 11) 16 (.binOp .eql t.te (.tmp 15) (.const (.int .i64 0)) t.te)
 FD:ak (o 12) 18 (.move (.tmp 5))
 FE:ak (o 13) 19 (.move (.tmp 0))
 FF:ak (o 14) 20 (.move (.tmp 0))
 FG:ak (o 15) 21 (.move (.tmp 0))
 FH:ak (o 16) 22 (.nilCheck (.tmp 21))
 Ko:ak (o 17) 23 (.fieldAddr t.tR (.tmp 22) 0)
 NT:ak (o 18) 24 (.load t.tY (.tmp 23))
 OR:ak (o 19) 25 (.call {callee:= .value (.func fTI),args:= #[.tmp 24],argTypes:= #[t.tY]})
 OS:ak (o 20) 17 (.move (.tmp 25))
 L6:ak (o 21) 26 (.extract (.tmp 17) 0)
 L7:ak (o 22) 27 (.extract (.tmp 17) 1)
 L8:ak (o 23) 28 (.extract (.tmp 17) 2)
 L9:ak (o 24) 29 (.nilCheck (.tmp 18))
 Ma:gq (o 25) (.store t.ti (.tmp 29) (.tmp 26))
 PZ:ak (o 26) 30 (.nilCheck (.tmp 19))
 Sh:ak (o 27) 31 (.fieldAddr t.tR (.tmp 30) 0)
 Si:gq (o 28) (.store t.tY (.tmp 31) (.tmp 27))
 Sj:ak (o 29) 32 (.nilCheck (.tmp 20))
 P0:ak (o 30) 33 (.fieldAddr t.tR (.tmp 32) 1)
 Q9:gq (o 31) (.store t.te (.tmp 33) (.tmp 28))
 Ra:ak (o 32) 34 (.binOp .add t.ti (.tmp 8) (.const (.int .i64 1)) t.ti)
 Rb:ak (o 33) 8 (.move (.tmp 34))
structure Z4 (P:Program) (f:Nat) (t:XJ) (fTI:Nat) (fn:Func) (r:Nat->Nat) (o:Nat->Oper):Prop where
 pos:P.funcs[f]? =some fn
 name:(fn.name== "runtime.NumGoroutine")=false
 tmps:fn.ntmps=35
 res:fn.results= #[]
 body:fn.body=some (Ia r o)
 ops:adA t fTI o
def Ic (r:Nat->Nat)(o:Nat->Oper):Code:= .seq (.region (r 0) #[o 0,o 1,o 2,o 3,o 4] false) (.cond (.tmp 10) (.region (r 1) #[o 5,o 6,o 7,o 8,o 9,o 10,o 11,o 12,o 13,o 14,o 15,o 16,o 17,o 18,o 19,o 20,o 21,o 22,o 23,o 24,o 25] false) .skip)
structure adB (t:XJ) (fTX:Nat) (o:Nat->Oper):Prop where
 h0:ak (o 0) 6 (.move (.tmp 0))
 h1:ak (o 1) 7 (.nilCheck (.tmp 6))
 h2:ak (o 2) 8 (.fieldAddr t.tR (.tmp 7) 1)
 h3:ak (o 3) 9 (.load t.te (.tmp 8))
 h4:ak (o 4) 10 (.binOp .eql t.te (.tmp 9) (.const (.int .i64 0)) t.te)
 h5:ak (o 5) 12 (.move (.tmp 1))
 h6:ak (o 6) 13 (.move (.tmp 0))
 h7:ak (o 7) 14 (.move (.tmp 0))
 h8:ak (o 8) 15 (.move (.tmp 0))
 h9:ak (o 9) 16 (.nilCheck (.tmp 15))
 B9:ak (o 10) 17 (.fieldAddr t.tR (.tmp 16) 0)
 FC:ak (o 11) 18 (.load t.tY (.tmp 17))
 FD:ak (o 12) 19 (.move (.tmp 2))
 FE:ak (o 13) 20 (.call {callee:= .value (.func fTX),args:= #[.tmp 18,.tmp 19],argTypes:= #[t.tY,t.ti]})
 FF:ak (o 14) 11 (.move (.tmp 20))
 FG:ak (o 15) 21 (.extract (.tmp 11) 0)
 FH:ak (o 16) 22 (.extract (.tmp 11) 1)
 Ko:ak (o 17) 23 (.extract (.tmp 11) 2)
 NT:ak (o 18) 24 (.nilCheck (.tmp 12))
 OR:gq (o 19) (.store t.tS (.tmp 24) (.tmp 21))
 OS:ak (o 20) 25 (.nilCheck (.tmp 13))
 L6:ak (o 21) 26 (.fieldAddr t.tR (.tmp 25) 0)
 L7:gq (o 22) (.store t.tY (.tmp 26) (.tmp 22))
 L8:ak (o 23) 27 (.nilCheck (.tmp 14))
 L9:ak (o 24) 28 (.fieldAddr t.tR (.tmp 27) 1)
 Ma:gq (o 25) (.store t.te (.tmp 28) (.tmp 23))
structure Z5 (P:Program) (f:Nat) (t:XJ) (fTX:Nat) (fn:Func) (r:Nat->Nat) (o:Nat->Oper):Prop where
 pos:P.funcs[f]? =some fn
 name:(fn.name== "runtime.NumGoroutine")=false
 tmps:fn.ntmps=29
 res:fn.results= #[]
 body:fn.body=some (Ic r o)
 ops:adB t fTX o
section
variable {P:Program}{c:Ctx}{g:Nat->List MV->Option MV}{k:TkF}{t:XJ} {φ0 φ1 φ:Ph}{w0 W:World} {q q':P9}{vs:List Value}{fn:Func}{r:Nat->Nat}{o:Nat->Oper}
theorem xc.lde (h:xc c φ0 w0 φ W q vs):W.cell? ⟨w0.heap.size+1,1,none⟩=some (.int .i64 q.e):=by obtain ⟨vb,T,h1,_⟩:=h.hr;rw [cell_of h1];rfl
theorem xc.akI (h:xc c φ0 w0 φ W q vs)(H:ady P c g k t){ty:Nat}(iJ: ∃I,c.tv ty=some I/\I.st=false/\I.size=1){j:Nat}(hj:j<8){v0 v1:Value}{m:MV}{xs:List MV}{e:Int}(h0:di c.key φ v0 m)(h01:v0.cells.toList=[v0])(h02:v0.oneCell'=true)(h1:di c.key φ v1 (.list xs)): ∃W1 W2 W3,(∀(oo:Oper) (x y:Operand) (ee:Operand->Value),gq oo (.store ty x y)->ee x= .pointer (some ⟨w0.heap.size+2,j,none⟩)->ee y=v0->(execOp ee oo).run P W= .ok .skip W1)/\ (∀(oo:Oper) (x y:Operand) (ee:Operand->Value),gq oo (.store t.tY x y)->ee x= .pointer (some ⟨w0.heap.size+1,0,none⟩)->ee y=v1->(execOp ee oo).run P W1= .ok .skip W2)/\ (∀(oo:Oper) (x y:Operand) (ee:Operand->Value),gq oo (.store t.te x y)->ee x= .pointer (some ⟨w0.heap.size+1,1,none⟩)->ee y= .int .i64 e->(execOp ee oo).run P W2= .ok .skip W3)/\ xc c φ0 w0 φ W3 ⟨xs,e,q.os.set j m⟩ (vs.set j v0):=by
 obtain ⟨I0,i1,i2,i3⟩:=iJ;obtain ⟨IY,y1,y2,y3⟩:=H.tyY;obtain ⟨Ie,e1,e2,e3⟩:=H.tye;obtain ⟨g1,g2,g3⟩:=afJ h1;obtain ⟨To,c1⟩:=h.ho;have k1:=h.ao4 (j:=j) h0;obtain ⟨vb,Tr,b1,b2⟩:=k1.hr;have k2:=k1.Bh g1;obtain ⟨vb2,Tr2,b3,b4⟩:=k2.hr;have hvb:vb2=v1:=by have:=(gV [v1,.int .i64 q.e].toArray b1).symm.trans b3;simp at this;exact this.1.symm
 subst hvb;refine ⟨_,_,_,λoo x y ee ho hx hy=>H9 ho H.hT i1 i3 hx hy h01 h02 c1 (by rw [h.n];exact hj),λoo x y ee ho hx hy=>H9 ho H.hT y1 y3 hx hy g2 g3 b1 (by simp),λoo x y ee ho hx hy=>H9 ho H.hT e1 e3 hx hy rfl rfl b3 (by simp),k2.Qc e b4⟩
theorem adC (H:ady P c g k t){f ba:Nat}(F:Z4 P f t k.ti fn r o){jV:List Nat}(ho: ∀j∈jV,j<8)(hlen:jV.length<100)(hb: ∀j (h:j<jV.length),φ1 ba j=some (.pointer (some ⟨w0.heap.size+2,jV[j],none⟩)))(hle:gZ φ1 φ)(hM:xc c φ0 w0 φ W q vs)(hq:Ew g k jV q=some q'): dR P f #[.pointer (some ⟨w0.heap.size+1,0,none⟩),.slice (some ⟨ba,0,none⟩) jV.length jV.length] W λ_ W'=> ∃φ vs,gZ φ1 φ/\xc c φ0 w0 φ W' q' vs:=by
 refine ox F.pos F.name F.body (calls_of_wp F.pos F.body ?_);rw [F.tmps];obtain ⟨IR,r1,r2,r3,r4⟩:=H.tyR;obtain ⟨IY,y1,y2,y3⟩:=H.tyY;obtain ⟨Ie,e1,e2,e3⟩:=H.tye;obtain ⟨II,p1,p2,p3⟩:=H.tyI;obtain ⟨hIi,Q5⟩:=bj p1;obtain ⟨iI,zI,hiI,hsI,_⟩:=lc (H.hT _ II hIi) Q5;have key: ∀a:Act,Tm a 35 (rl (rl (λ_=>undef) 0 (.pointer (some ⟨w0.heap.size+1,0,none⟩))) 1 (.slice (some ⟨ba,0,none⟩) jV.length jV.length))->(Ia r o).wp P (bodyPost P fn λe W=> ∃v,e= .returned v/\ ∃φ vs,gZ φ1 φ/\xc c φ0 w0 φ W q' vs) a W:=by
  intro a ao;unfold Ia;refine wp_seq (wp_region ?_);rw [show sh (#[o 0,o 1,o 2]:Array Oper).size=[0,1,2] from rfl];refine ao.step (v:= .slice (some ⟨ba,0,none⟩) jV.length jV.length) rfl F.ops.h0 (by decide) (aA F.ops.h0 _) (λa ao=> ?_);refine ao.step (v:= .int .i64 ((jV.length:Nat):Int)) rfl F.ops.h1 (by decide) (mC F.ops.h1 H.adz rfl _) (λa ao=> ?_);refine ao.step (v:= .int .i64 0) rfl F.ops.h2 (by decide) (aA F.ops.h2 _) (λa ao=> ?_);refine wp_block (wp_loop (λa W=> ∃σ,Tm a 35 σ/\σ 0= .pointer (some ⟨w0.heap.size+1,0,none⟩)/\σ 6= .slice (some ⟨ba,0,none⟩) jV.length jV.length/\σ 7= .int .i64 ((jV.length:Nat):Int)/\ ∃j:Nat,j<=jV.length/\σ 8= .int .i64 (j:Int)/\ ∃φ q vs,gZ φ1 φ/\xc c φ0 w0 φ W q vs/\Ew g k (jV.drop j) q=some q') (λa W=>match a.tmps.getD 8 undef with| .int _ j=>jV.length-j.toNat|_=>0) ?_ ?_)
  ·exact ⟨_,ao,rfl,rfl,rfl,0,abU _,rfl,φ,q,vs,hle,hM,by simpa using hq⟩
  ·clear ao hle hM hq;rintro a W ⟨σ,ao,h0,h6,h7,j,hj,h8,φ,q,vs,hle,hM,hq⟩;have hm8:(match a.tmps.getD 8 undef with| .int _ j=>jV.length-j.toNat|_=>0)=jV.length-j:=by rw [ao.get 8,h8];simp
   rw [hm8];clear hm8;refine wp_seq (wp_region ?_);rw [show sh (#[o 3]:Array Oper).size=[0] from rfl];refine ao.step (v:= .bool (decide ((j:Int)<(jV.length:Int)))) rfl F.ops.h3 (by decide) (H4 F.ops.h3 h8 h7 _) (λa ao=> ?_);refine wp_seq ?_;by_cases cI:j<jV.length;rotate_left
   ·refine ao.cond (b:=false) (by show aa6 (decide ((j:Int)<(jV.length:Int)))=_;rw [decide_eq_false (by omega)]) ?_;simp only [AI,if_false];refine wp_exit ?_;rw [abV (by omega)] at hq;simp only [Ew,bN] at hq;subst hq;exact ahl (P:=P) (R:=λ_ W=> ∃φ vs,gZ φ1 φ/\xc c φ0 w0 φ W q vs) F.res ao (λ_=>⟨φ,vs,hle,hM⟩)
   refine ao.cond (b:=true) (by show aa6 (decide ((j:Int)<(jV.length:Int)))=_;rw [decide_eq_true (by omega)]) ?_;simp only [if_true];refine wp_skip ?_;rw [List.drop_eq_getElem_cons cI] at hq;simp only [Ew] at hq;have hpc:W.cell? ⟨ba,j,none⟩=some (.pointer (some ⟨w0.heap.size+2,jV[j],none⟩)):=hM.kZ _ _ _ (hle _ _ _ (hb j cI));refine wp_seq (wp_block ?_);refine wp_seq (wp_region ?_);rw [show sh (#[o 4,o 5,o 6]:Array Oper).size=[0,1,2] from rfl];refine ao.step rfl F.ops.h4 (by decide) (adt (size:=1) F.ops.h4 H.adz hiI (by rw [hsI,p3]) h6 h8 cI _) (λa ao=> ?_);refine ao.step (v:= .pointer (some ⟨w0.heap.size+2,jV[j],none⟩)) rfl F.ops.h5 (by decide) (vF F.ops.h5 (lV H.hT p1 p2 p3 (by simpa using hpc))) (λa ao=> ?_);refine ao.step (v:= .pointer (some ⟨w0.heap.size+2,jV[j],none⟩)) rfl F.ops.h6 (by decide) (bP F.ops.h6 _) (λa ao=> ?_);refine wp_seq (wp_region ?_);rw [show sh (#[o 7,o 8,o 9,o 10,o 11]:Array Oper).size=[0,1,2,3,4] from rfl];refine ao.step (v:= .pointer (some ⟨w0.heap.size+1,0,none⟩)) rfl F.ops.h7 (by decide) ((aA F.ops.h7 _).trans (by show BY (By (σ 0)) W=_;rw [h0])) (λa ao=> ?_);refine ao.step rfl F.ops.h8 (by decide) (pZ F.ops.h8 rfl _) (λa ao=> ?_);refine ao.step rfl F.ops.h9 (by decide) (kw F.ops.h9 H.hT r1 r2 (q:=1) (by rw [r3];rfl) rfl _) (λa ao=> ?_);refine ao.step (v:= .int .i64 q.e) rfl F.ops.B9 (by decide) (vF F.ops.B9 (lV H.hT e1 e2 e3 (by simpa using hM.lde))) (λa ao=> ?_);refine ao.step (v:= .bool (decide (q.e=0))) rfl F.ops.FC (by decide) (nG F.ops.FC rfl rfl _) (λa ao=> ?_);have last: ∀(a:Act) (W:World) (σ:Nat->Value) (φ:Ph) (q:P9) (vs:List Value),Tm a 35 σ->σ 0= .pointer (some ⟨w0.heap.size+1,0,none⟩)->σ 6= .slice (some ⟨ba,0,none⟩) jV.length jV.length->σ 7= .int .i64 ((jV.length:Nat):Int)->σ 8= .int .i64 (j:Int)-> gZ φ1 φ->xc c φ0 w0 φ W q vs->Ew g k (jV.drop (j+1)) q=some q'-> (adG (r 5) #[o 32,o 33] false).wp P (Exit.then (λa W=>(∃σ,Tm a 35 σ/\σ 0= .pointer (some ⟨w0.heap.size+1,0,none⟩)/\σ 6= .slice (some ⟨ba,0,none⟩) jV.length jV.length/\σ 7= .int .i64 ((jV.length:Nat):Int)/\ ∃j:Nat,j<=jV.length/\σ 8= .int .i64 (j:Int)/\ ∃φ q vs,gZ φ1 φ/\xc c φ0 w0 φ W q vs/\Ew g k (jV.drop j) q=some q')/\(match a.tmps.getD 8 undef with| .int _ j=>jV.length-j.toNat|_=>0)<jV.length-j) (Exit.inBlock 0 (bodyPost P fn λe W=> ∃v,e= .returned v/\ ∃φ vs,gZ φ1 φ/\xc c φ0 w0 φ W q' vs))) a W:=by
    intro a W σ φ q vs ao h0 h6 h7 h8 hle hM hq;refine wp_region ?_;rw [show sh (#[o 32,o 33]:Array Oper).size=[0,1] from rfl];refine ao.step (v:= .int .i64 ((j+1:Nat):Int)) rfl F.ops.Ra (by decide) (jU (q:=1) F.ops.Ra h8 rfl (by omega) _) (λa ao=> ?_);refine ao.step (v:= .int .i64 ((j+1:Nat):Int)) rfl F.ops.Rb (by decide) (aA F.ops.Rb _) (λa ao=> ?_);refine ⟨⟨_,ao,h0,h6,h7,j+1,by omega,rfl,φ,q,vs,hle,hM,hq⟩,?_⟩;have:a.tmps.getD 8 undef= .int .i64 ((j+1:Nat):Int):=by rw [ao.get 8];rfl
    rw [this];simp;omega
   by_cases he:q.e=0;rotate_left
   ·refine ao.cond (b:=false) (by show aa6 (decide (q.e=0))=_;rw [decide_eq_false he]) ?_;simp only [AI,if_false];refine wp_skip ?_;rw [tkI,if_neg he] at hq;exact last a W _ φ q vs ao h0 h6 h7 h8 hle hM hq
   refine ao.cond (b:=true) (by show aa6 (decide (q.e=0))=_;rw [decide_eq_true he]) ?_;simp only [if_true];cases lQ:tkI g k jV[j] q with
   |none=>rw [lQ] at hq;cases hq
   |some q2=>
   rw [lQ] at hq;dsimp only at hq;rw [tkI,if_pos he] at lQ;split at lQ;rotate_left
   ·cases lQ
   rename_i n xs e Pw;simp only [bN] at lQ;subst lQ;obtain ⟨vb,Tr,b1,b2⟩:=hM.hr;refine wp_region ?_;rw [show sh (#[o 12,o 13,o 14,o 15,o 16,o 17,o 18,o 19,o 20,o 21,o 22,o 23,o 24,o 25,o 26,o 27,o 28,o 29,o 30,o 31]:Array Oper).size=[0,1,2,3,4,5,6,7,8,9,10,11,12,13,14,15,16,17,18,19] from rfl];refine ao.step (v:= .pointer (some ⟨w0.heap.size+2,jV[j],none⟩)) rfl F.ops.FD (by decide) (aA F.ops.FD _) (λa ao=> ?_);refine ao.step (v:= .pointer (some ⟨w0.heap.size+1,0,none⟩)) rfl F.ops.FE (by decide) ((aA F.ops.FE _).trans (by show BY (By (σ 0)) W=_;rw [h0])) (λa ao=> ?_);refine ao.step (v:= .pointer (some ⟨w0.heap.size+1,0,none⟩)) rfl F.ops.FF (by decide) ((aA F.ops.FF _).trans (by show BY (By (σ 0)) W=_;rw [h0])) (λa ao=> ?_);refine ao.step (v:= .pointer (some ⟨w0.heap.size+1,0,none⟩)) rfl F.ops.FG (by decide) ((aA F.ops.FG _).trans (by show BY (By (σ 0)) W=_;rw [h0])) (λa ao=> ?_);refine ao.step rfl F.ops.FH (by decide) (pZ F.ops.FH rfl _) (λa ao=> ?_);refine ao.step rfl F.ops.Ko (by decide) (kw F.ops.Ko H.hT r1 r2 (q:=0) (by rw [r3];rfl) rfl _) (λa ao=> ?_);refine ao.step (v:=vb) rfl F.ops.NT (by decide) (vF F.ops.NT (lV H.hT y1 y2 y3 (by rw [cell_of b1];rfl))) (λa ao=> ?_);have Fi:dR P k.ti #[vb] W λx W'=> ∃φ',Trans (λb=>W.heap.size<=b) φ W φ' W'/\oS φ' W'/\jR c (λb=>W.heap.size<=b) φ' W' (c.key k.ti) x (.b8 [.i .i64 n,.list xs,.i .i64 e]):=Eu (vs:=[vb]) (by rw [H.key];exact H.gv.1) (H.snd _ _ _ Pw) rfl ⟨_,_,rfl,⟨rfl,b2⟩,rfl⟩ hM.kZ;refine ao.call rfl F.ops.OR (by decide) (Uj F.ops.OR rfl rfl _) Fi ?_;rintro x1 W1 a ⟨φ2,t1,m1,pK⟩ ao;obtain ⟨arr,rfl,pK⟩: ∃arr,x1= .tuple arr/\bg c.key φ2 arr.toList [.i .i64 n,.list xs,.i .i64 e]:=pK;obtain ⟨x,y,z,a1,a2,a3,q1,q2,q3⟩:=pK.three;have hx:=Z3 q1;have hz:=Z3 q3;subst hx hz;have hM1:=hM.grow t1 m1;obtain ⟨Wa,Wb,Wc,s1,s2,s3,hM2⟩:=hM1.akI H H.tyi (ho _ (ab2 cI)) q1 rfl rfl q2 (e:=e);refine ao.step (v:= .tuple arr) rfl F.ops.OS (by decide) (aA F.ops.OS _) (λa ao=> ?_);refine ao.step (v:= .int .i64 n) rfl F.ops.L6 (by decide) (wB F.ops.L6 rfl a1 _) (λa ao=> ?_);refine ao.step (v:=y) rfl F.ops.L7 (by decide) (wB F.ops.L7 rfl a2 _) (λa ao=> ?_);refine ao.step (v:= .int .i64 e) rfl F.ops.L8 (by decide) (wB F.ops.L8 rfl a3 _) (λa ao=> ?_);refine ao.step rfl F.ops.L9 (by decide) (pZ F.ops.L9 rfl _) (λa ao=> ?_);refine ao.BG rfl F.ops.Ma (s1 _ _ _ _ F.ops.Ma rfl rfl) ?_;refine ao.step rfl F.ops.PZ (by decide) (pZ F.ops.PZ rfl _) (λa ao=> ?_);refine ao.step rfl F.ops.Sh (by decide) (kw F.ops.Sh H.hT r1 r2 (q:=0) (by rw [r3];rfl) rfl _) (λa ao=> ?_);refine ao.BG rfl F.ops.Si (s2 _ _ _ _ F.ops.Si rfl rfl) ?_;refine ao.step rfl F.ops.Sj (by decide) (pZ F.ops.Sj rfl _) (λa ao=> ?_);refine ao.step rfl F.ops.P0 (by decide) (kw F.ops.P0 H.hT r1 r2 (q:=1) (by rw [r3];rfl) rfl _) (λa ao=> ?_);refine ao.BG rfl F.ops.Q9 (s3 _ _ _ _ F.ops.Q9 rfl rfl) ?_;exact last a Wc _ φ2 _ _ ao h0 h6 h7 h8 (hle.trans t1.ph) hM2 hq
 exact key _ (tm2 _ _ 33)
theorem Um (H:ady P c g k t){f:Nat}(F:Z5 P f t k.tx fn r o){j:Nat}(hj:j<8){most:Int}(hle:gZ φ1 φ)(hM:xc c φ0 w0 φ W q vs)(hq:Qa g k j most q=some q'): dR P f #[.pointer (some ⟨w0.heap.size+1,0,none⟩),.pointer (some ⟨w0.heap.size+2,j,none⟩),.int .i64 most] W λ_ W'=> ∃φ vs,gZ φ1 φ/\xc c φ0 w0 φ W' q' vs:=by
 refine ox F.pos F.name F.body (calls_of_wp F.pos F.body ?_);rw [F.tmps];obtain ⟨IR,r1,r2,r3,r4⟩:=H.tyR;obtain ⟨IY,y1,y2,y3⟩:=H.tyY;obtain ⟨Ie,e1,e2,e3⟩:=H.tye;have key: ∀a:Act,Tm a 29 (rl (rl (rl (λ_=>undef) 0 (.pointer (some ⟨w0.heap.size+1,0,none⟩))) 1 (.pointer (some ⟨w0.heap.size+2,j,none⟩))) 2 (.int .i64 most))->(Ic r o).wp P (bodyPost P fn λe W=> ∃v,e= .returned v/\ ∃φ vs,gZ φ1 φ/\xc c φ0 w0 φ W q' vs) a W:=by
  intro a ao;unfold Ic;refine wp_seq (wp_region ?_);rw [show sh (#[o 0,o 1,o 2,o 3,o 4]:Array Oper).size=[0,1,2,3,4] from rfl];refine ao.step (v:= .pointer (some ⟨w0.heap.size+1,0,none⟩)) rfl F.ops.h0 (by decide) (aA F.ops.h0 _) (λa ao=> ?_);refine ao.step rfl F.ops.h1 (by decide) (pZ F.ops.h1 rfl _) (λa ao=> ?_);refine ao.step rfl F.ops.h2 (by decide) (kw F.ops.h2 H.hT r1 r2 (q:=1) (by rw [r3];rfl) rfl _) (λa ao=> ?_);refine ao.step (v:= .int .i64 q.e) rfl F.ops.h3 (by decide) (vF F.ops.h3 (lV H.hT e1 e2 e3 (by simpa using hM.lde))) (λa ao=> ?_);refine ao.step (v:= .bool (decide (q.e=0))) rfl F.ops.h4 (by decide) (nG F.ops.h4 rfl rfl _) (λa ao=> ?_);by_cases he:q.e=0;rotate_left
  ·refine ao.cond (b:=false) (by show aa6 (decide (q.e=0))=_;rw [decide_eq_false he]) ?_;simp only [AI,if_false];refine wp_skip ?_;rw [Qa,if_neg he] at hq;simp only [bN] at hq;subst hq;exact ahl F.res ao (λ_=>⟨φ,vs,hle,hM⟩)
  refine ao.cond (b:=true) (by show aa6 (decide (q.e=0))=_;rw [decide_eq_true he]) ?_;simp only [if_true];rw [Qa,if_pos he] at hq;split at hq;rotate_left
  ·cases hq
  rename_i l xs e Pw;simp only [bN] at hq;subst hq;obtain ⟨vb,Tr,b1,b2⟩:=hM.hr;refine wp_region ?_;rw [show sh (#[o 5,o 6,o 7,o 8,o 9,o 10,o 11,o 12,o 13,o 14,o 15,o 16,o 17,o 18,o 19,o 20,o 21,o 22,o 23,o 24,o 25]:Array Oper).size=[0,1,2,3,4,5,6,7,8,9,10,11,12,13,14,15,16,17,18,19,20] from rfl];refine ao.step (v:= .pointer (some ⟨w0.heap.size+2,j,none⟩)) rfl F.ops.h5 (by decide) (aA F.ops.h5 _) (λa ao=> ?_);refine ao.step (v:= .pointer (some ⟨w0.heap.size+1,0,none⟩)) rfl F.ops.h6 (by decide) (aA F.ops.h6 _) (λa ao=> ?_);refine ao.step (v:= .pointer (some ⟨w0.heap.size+1,0,none⟩)) rfl F.ops.h7 (by decide) (aA F.ops.h7 _) (λa ao=> ?_);refine ao.step (v:= .pointer (some ⟨w0.heap.size+1,0,none⟩)) rfl F.ops.h8 (by decide) (aA F.ops.h8 _) (λa ao=> ?_);refine ao.step rfl F.ops.h9 (by decide) (pZ F.ops.h9 rfl _) (λa ao=> ?_);refine ao.step rfl F.ops.B9 (by decide) (kw F.ops.B9 H.hT r1 r2 (q:=0) (by rw [r3];rfl) rfl _) (λa ao=> ?_);refine ao.step (v:=vb) rfl F.ops.FC (by decide) (vF F.ops.FC (lV H.hT y1 y2 y3 (by rw [cell_of b1];rfl))) (λa ao=> ?_);refine ao.step (v:= .int .i64 most) rfl F.ops.FD (by decide) (aA F.ops.FD _) (λa ao=> ?_);have Fi:dR P k.tx #[vb,.int .i64 most] W λx W'=> ∃φ',Trans (λb=>W.heap.size<=b) φ W φ' W'/\oS φ' W'/\jR c (λb=>W.heap.size<=b) φ' W' (c.key k.tx) x (.b8 [.s l,.list xs,.i .i64 e]):=Eu (vs:=[vb,.int .i64 most]) (by rw [H.key];exact H.gv.2.1) (H.snd _ _ _ Pw) rfl ⟨_,_,rfl,⟨rfl,b2⟩,_,_,rfl,z8,rfl⟩ hM.kZ;refine ao.call rfl F.ops.FE (by decide) (Uk F.ops.FE rfl rfl rfl _) Fi ?_;rintro x1 W1 a ⟨φ2,t1,m1,pK⟩ ao;obtain ⟨arr,rfl,pK⟩: ∃arr,x1= .tuple arr/\bg c.key φ2 arr.toList [.s l,.list xs,.i .i64 e]:=pK;obtain ⟨x,y,z,a1,a2,a3,q1,q2,q3⟩:=pK.three;have hz:=Z3 q3;subst hz;have hx:x.cells.toList=[x]/\x.oneCell'=true:=by obtain ⟨_,hx⟩:=q1;generalize hv:[x]=lx at hx;cases hx;simp at hv;subst hv;exact ⟨rfl,rfl⟩
  have hM1:=hM.grow t1 m1;obtain ⟨Wa,Wb,Wc,s1,s2,s3,hM2⟩:=hM1.akI H H.tyS hj q1 hx.1 hx.2 q2 (e:=e);refine ao.step (v:= .tuple arr) rfl F.ops.FF (by decide) (aA F.ops.FF _) (λa ao=> ?_);refine ao.step (v:=x) rfl F.ops.FG (by decide) (wB F.ops.FG rfl a1 _) (λa ao=> ?_);refine ao.step (v:=y) rfl F.ops.FH (by decide) (wB F.ops.FH rfl a2 _) (λa ao=> ?_);refine ao.step (v:= .int .i64 e) rfl F.ops.Ko (by decide) (wB F.ops.Ko rfl a3 _) (λa ao=> ?_);refine ao.step rfl F.ops.NT (by decide) (pZ F.ops.NT rfl _) (λa ao=> ?_);refine ao.BG rfl F.ops.OR (s1 _ _ _ _ F.ops.OR rfl rfl) ?_;refine ao.step rfl F.ops.OS (by decide) (pZ F.ops.OS rfl _) (λa ao=> ?_);refine ao.step rfl F.ops.L6 (by decide) (kw F.ops.L6 H.hT r1 r2 (q:=0) (by rw [r3];rfl) rfl _) (λa ao=> ?_);refine ao.BG rfl F.ops.L7 (s2 _ _ _ _ F.ops.L7 rfl rfl) ?_;refine ao.step rfl F.ops.L8 (by decide) (pZ F.ops.L8 rfl _) (λa ao=> ?_);refine ao.step rfl F.ops.L9 (by decide) (kw F.ops.L9 H.hT r1 r2 (q:=1) (by rw [r3];rfl) rfl _) (λa ao=> ?_);refine ao.BG rfl F.ops.Ma (s3 _ _ _ _ F.ops.Ma rfl rfl) ?_;exact ahl F.res ao (λ_=>⟨φ2,_,hle.trans t1.ph,hM2⟩)
 exact key _ (tm3 _ _ _ 26)
end
end Dn
/-
  Parts that are taken off bytes, into a variable of eight parts: the walk. Conditions: none.
-/
namespace Dn
open Go
def Ig (r:Nat->Nat)(o:Nat->Oper):Code:= .seq (.region (r 0) #[o 0,o 1,o 2] false) (.seq (.region (r 1) #[o 3,o 4,o 5,o 6] false) (.seq (.region (r 2) #[o 7,o 8,o 9] false) (.seq (.region (r 3) #[o 10,o 11,o 12,o 13,o 14,o 15,o 16,o 17,o 18] false) (.seq (.region (r 4) #[o 19,o 20,o 21] false) (.seq (.region (r 5) #[o 22,o 23,o 24] false) (.seq (.block 0 (.seq (.region (r 6) #[o 25,o 26,o 27,o 28,o 29,o 30] false) (.cond (.tmp 26) (.seq (.region (r 7) #[o 31,o 32,o 33,o 34,o 35,o 36,o 37,o 38] true) .ret) (.seq (.region (r 8) #[o 39,o 40,o 41,o 42] false) (.cond (.tmp 37) (.seq (.region (r 9) #[o 43,o 44,o 45,o 46] false) .ret) .skip))))) (.seq (.region (r 10) #[o 47,o 48,o 49,o 50,o 51,o 52,o 53,o 54] true) .ret)))))))
structure adD (t:XJ) (fI fX fM:Nat) (o:Nat->Oper):Prop where
 h0:ak (o 0) 2 (.alloc t.tO)
 h1:ak (o 1) 3 (.assign (.const (.slice none 0 0)))
 h2:ak (o 2) 4 (.assign (.const (.int .i64 0)))
 h3:ak (o 3) 7 (.move (.tmp 0))
 h4:ak (o 4) 8 (.build t.tR #[(0,.tmp 7)])
 h5:ak (o 5) 9 (.box t.tR (.tmp 8))
 h6:ak (o 6) 5 (.assign (.tmp 9))
 h7:ak (o 7) 10 (.build t.tO #[])
 h8:ak (o 8) 6 (.alloc t.tO)
 h9:gq (o 9) (.store t.tO (.tmp 6) (.tmp 10))
 B9:ak (o 10) 11 (.move (.tmp 5))
 FC:ak (o 11) 12 (.fieldAddr t.tO (.tmp 6) 0)
 FD:ak (o 12) 13 (.fieldAddr t.tO (.tmp 6) 1)
 FE:ak (o 13) 14 (.fieldAddr t.tO (.tmp 6) 2)
 FF:ak (o 14) 15 (.fieldAddr t.tO (.tmp 6) 5)
 FG:ak (o 15) 16 (.fieldAddr t.tO (.tmp 6) 6)
 FH:ak (o 16) 17 (.fieldAddr t.tO (.tmp 6) 7)
 Ko:ak (o 17) 18 (.buildSlice t.tL 6 #[(0,.tmp 12),(1,.tmp 13),(2,.tmp 14),(3,.tmp 15),(4,.tmp 16),(5,.tmp 17)])
 NT:ak (o 18) 19 (.call {callee:= .value (.func fI),args:= #[.tmp 11,.tmp 18],argTypes:= #[t.tQ,t.tL]})
 OR:ak (o 19) 20 (.move (.tmp 5))
 OS:ak (o 20) 21 (.fieldAddr t.tO (.tmp 6) 3)
 L6:ak (o 21) 22 (.call {callee:= .value (.func fX),args:= #[.tmp 20,.tmp 21,.const (.int .i64 100)],argTypes:= #[t.tQ,t.tX,t.ti]})
 L7:ak (o 22) 23 (.move (.tmp 5))
 L8:ak (o 23) 24 (.fieldAddr t.tO (.tmp 6) 4)
 L9:ak (o 24) 25 (.call {callee:= .value (.func fX),args:= #[.tmp 23,.tmp 24,.const (.int .i64 1000)],argTypes:= #[t.tQ,t.tX,t.ti]})
 Ma:ak (o 25) 27 (.move (.tmp 5))
 PZ:ak (o 26) 28 (.nilCheck (.tmp 27))
 Sh:ak (o 27) 29 (.fieldAddr t.tR (.tmp 28) 1)
 Si:ak (o 28) 30 (.load t.te (.tmp 29))
 Sj:ak (o 29) 31 (.binOp .neq t.te (.tmp 30) (.const (.int .i64 0)) t.te)
 P0:ak (o 30) 26 (.assign (.tmp 31))
 Q9:ak (o 31) 32 (.build t.tO #[])
 Ra:ak (o 32) 33 (.move (.tmp 5))
 Rb:ak (o 33) 34 (.nilCheck (.tmp 33))
 Sk:ak (o 34) 35 (.fieldAddr t.tR (.tmp 34) 1)
 Ub:ak (o 35) 36 (.load t.te (.tmp 35))
 VY:gq (o 36) (.store t.tO (.tmp 2) (.tmp 32))
 Uc:ak (o 37) 3 (.assign (.const (.slice none 0 0)))
 VZ:ak (o 38) 4 (.assign (.tmp 36))
 h39:ak (o 39) 38 (.load t.tO (.tmp 6))
 h40:ak (o 40) 39 (.call {callee:= .value (.func fM),args:= #[.tmp 38],argTypes:= #[t.tO]})
 h41:ak (o 41) 40 (.unOp .not t.tB (.tmp 39))
 h42:ak (o 42) 37 (.assign (.tmp 40))
 h43:ak (o 43) 41 (.build t.tO #[])
 h44:gq (o 44) (.store t.tO (.tmp 2) (.tmp 41))
 h45:ak (o 45) 3 (.assign (.const (.slice none 0 0)))
 h46:ak (o 46) 4 (.assign (.const (.int .i64 3)))
 ZH:ak (o 47) 42 (.load t.tO (.tmp 6))
 Yz:ak (o 48) 43 (.move (.tmp 5))
 h49:ak (o 49) 44 (.nilCheck (.tmp 43))
 V0:ak (o 50) 45 (.fieldAddr t.tR (.tmp 44) 0)
 h51:ak (o 51) 46 (.load t.tY (.tmp 45))
 h52:gq (o 52) (.store t.tO (.tmp 2) (.tmp 42))
 h53:ak (o 53) 3 (.assign (.tmp 46))
 ZI:ak (o 54) 4 (.assign (.const (.int .i64 0)))
def Un:List Value:=[.int .i64 0,.int .i64 0,.int .i64 0,.string aci,.string aci,.int .i64 0,.int .i64 0,.int .i64 0]
structure Aa (P:Program) (c:Ctx) (g:Nat->List MV->Option MV) (k:TkF) (t:XJ) (f fI fX:Nat) (fn:Func) (r:Nat->Nat) (o:Nat->Oper):Prop extends ady P c g k t where
 pos:P.funcs[f]? =some fn
 name:(fn.name== "runtime.NumGoroutine")=false
 tmps:fn.ntmps=47
 res:fn.results= #[.cell 2 t.tO,.tmp 3,.tmp 4]
 body:fn.body=some (Ig r o)
 ops:adD t fI fX k.may o
 ints: ∃v8 r1 o1,Z4 P fI t k.ti v8 r1 o1
 text: ∃Kp r2 o2,Z5 P fX t k.tx Kp r2 o2
 mix:P.follows .mixedOrders=true
 d7:sL c #[o 31,o 32,o 33,o 34,o 35,o 36,o 37,o 38] [0,1,2,3,4,5,6,7]=true
 d10:sL c #[o 47,o 48,o 49,o 50,o 51,o 52,o 53,o 54] [0,1,2,3,4,5,6,7]=true
 s35:still c (o 35)=true
 s47:still c (o 47)=true
 s51:still c (o 51)=true
 m38:fC c (o 38)=false
 m53:fC c (o 53)=false
 gvF:c.dA f=false
 tyL: ∃I,c.tv t.tL=some I/\I.elem=t.tI
 blR: ∀ad n cp,P.built t.tR [(0,.slice ad n cp)]=some #[.slice ad n cp,.int .i64 0]
 blO:P.built t.tO []=some Un.toArray
theorem DS.Z6 {P:Program}{c:Ctx}{ops:Array Oper}{N:Act->World->Prop} {φ:Ph}{o:Oper}{a:Act}{w:World}{n:Nat} {σ:Nat->Value}{x d:Nat}{rest pre:List Nat}{listed:Array Bool}{op:Op}{v:Value}(h:DS c ops pre (x::rest) listed)(hx:ops[x]? =some o)(ho:ak o d op)(hd:d<n)(KA:gQ o=true)(hmv:fC c o=false)(hld:jP c o=true)(dK:still c o=true)(ao:Tm a n σ)(hi:oS φ w)(bF: ∀w',oS φ w'->(execOp (ev σ) o).run P w'= .ok (.value v) w')(LD: ∀a',Tm a' n (rl σ d v)->DS c ops (x::pre) rest (listed.setIfInBounds x true)->yY P c ops N φ rest.length (listed.setIfInBounds x true) a' w):yY P c ops N φ (rest.length+1) listed a w:=by
 obtain ⟨zX,HS,sX,uo,d4⟩:=h.facts hx;simp only [KA,hmv,adX,Bool.and_self,cond_true] at d4;obtain ⟨D,D1,D2,D3,D4⟩:=vB rest [x] d4 (λy hy cR=>absurd (by simpa using hy) cR);have hL:=h.lst;refine xz (v:=v) D3 hx h.sel rest.length listed a w ?_ ?_ sX ?_ hi ?_
 ·intro j oj R7 hjD hjx PM;have PR:j<ops.size:=(No.1 R7).1;have hjr:j∈rest:=by
   rcases h.all j PR with h1|h1
   ·exact absurd h1 ((hL.oZ PR).1 PM)
   ·rcases ab6.1 h1 with h1|h1
    ·exact absurd h1 hjx
    ·exact h1
  obtain ⟨p,Ve,Lx,hp3⟩:=D4 j hjr hjD;rw [R7] at Ve;cases Ve;exact ⟨Lx,λhl hs=>by rw [dK] at hs;cases hs⟩
 ·intro d hd;have hdn:d∉pre:=by
   rcases D2 d hd with h1|h1
   ·have h1:d=x:=by simpa using h1
    rw [h1];exact zX
   ·exact λhp=>lU rest (x::pre) uo.dr d h1 (by simp [hp])
  by_cases LU:d<ops.size
  ·cases hg:listed.getD d false with
   |false=>rfl
   |true=>exact absurd ((hL.done LU).1 hg) hdn
  ·have hl: ¬d<listed.size:=by rw [hL.size];exact LU
   simp [hl]
 ·refine .inl ⟨by simp [ae3,ho.guard],λw' hg=> ?_⟩;rw [ao.eval];exact bF w' (hg hld).2
 ·rw [ho.dst];exact LD _ (ao.put hd v) uo
section
variable {P:Program}{c:Ctx}{g:Nat->List MV->Option MV}{k:TkF}{t:XJ}{f fI fX:Nat}{fn:Func}{r:Nat->Nat}{o:Nat->Oper} {φ0 φ1 φ:Ph} {w0 W W':World} {q q':P9}{vs:List Value}{a:Act} {σ:Nat->Value}
theorem GU {o:Oper}{d t:Nat}{parts:Array (Nat×Operand)}{e:Operand->Value}{out:Array Value}(ho:ak o d (.build t parts))(hb:P.built t (parts.toList.map λp=>(p.1,e p.2))=some out)(w:World):(execOp e o).run P w= .ok (.value (.agg out)) w:=by have:=run_build (P:=P) w t (parts.map λ(i,x)=>(i,e x)) out (by simpa using hb);simp [execOp,ho.op] at this⊢;simp [this]
theorem adE {o:Oper}{d:Nat} {t t':TypeId}{x y:Operand}{e:Operand->Value}{p q:Int}(ho:ak o d (.binOp .neq t x y t'))(hx:e x= .int .i64 p)(hy:e y= .int .i64 q)(w:World):(execOp e o).run P w= .ok (.value (.bool (!decide (p=q)))) w:=wz ho hx hy (λw=>by simp [Go.binOp,Op.intCmp];rfl) w
theorem Df {o:Oper}{t:TypeId}{I:TI}{x y:Operand}{e:Operand->Value}{g:Nat}{arr:Array Value}{T:TypeId}{w:World}(ho:gq o (.store t x y))(hT:ia P c.ti)(hI:c.tv t=some I)(hs:I.size=vs.length)(hx:e x= .pointer (some ⟨g,0,none⟩))(hy:e y= .agg vs.toArray)(h1: ∀u∈vs,u.oneCell'=true)(cz:w.heap[g]? =some (.cells arr T (0,0)))(hn:arr.size=vs.length):(execOp e o).run P w= .ok .skip (w.setRow g vs.toArray):=by
 obtain ⟨lQ,CD⟩:=bj hI;have hc:(Value.agg vs.toArray).cells.toList=vs:=by simp [age]
 rw [GR (v:= .agg vs.toArray) ho (hT _ _ lQ) CD hx hy (by rw [hc,hs]) (by rw [hc];exact h1) cz (by rw [hs,hn];omega),hc,hs];have:arr.toList.drop (0+vs.length)=[]:=by rw [acu,abV];rw [abS,hn];exact OF _
 rw [this];simp
theorem bg.Vj {key:Nat->Nat} {φ:Ph}: ∀{ms:List MV} {vs:List Value},(∀m∈ms,m.one=true)->bg key φ vs ms->ga key φ vs ms:=by
 intro ms;induction ms with
 |nil=>intro vs _ h;have h:vs=[]:=h;subst h;exact .nil
 |cons m ms ih=>intro vs h1 h;obtain ⟨v,r,rfl,h2,h3⟩:=h;refine .cons [v] m r ms ?_ (ih (λm hm=>h1 m (by simp [hm])) h3);have:=h1 m (by simp);cases m<;>first|exact h2.2|(simp [MV.one] at this)
theorem bg.zN {key:Nat->Nat} {φ:Ph}{ms:List MV}{vs:List Value}(h:ga key φ vs ms): ∀u∈vs,u.oneCell'=true:=h.cells
theorem Uo {os:List MV}{j:Nat}{m:MV}(h: ∀m∈os,m.one=true)(hm:m.one=true): ∀x∈os.set j m,x.one=true:=by
 intro x hx;rcases List.mem_or_eq_of_mem_set hx with hx|rfl
 ·exact h x hx
 ·exact hm
theorem adF {j:Nat}(h: ∀m∈q.os,m.one=true)(hq:tkI g k j q=some q'): ∀m∈q'.os,m.one=true:=by
 unfold tkI at hq;split at hq
 ·split at hq
  ·simp only [bN] at hq;subst hq;exact Uo h rfl
  ·cases hq
 ·simp only [bN] at hq;subst hq;exact h
theorem Up {j:Nat}{most:Int}(h: ∀m∈q.os,m.one=true)(hq:Qa g k j most q=some q'): ∀m∈q'.os,m.one=true:=by
 unfold Qa at hq;split at hq
 ·split at hq
  ·simp only [bN] at hq;subst hq;exact Uo h rfl
  ·cases hq
 ·simp only [bN] at hq;subst hq;exact h
theorem Z7 {l:List Nat}: ∀{q:P9},(∀m∈q.os,m.one=true)->Ew g k l q=some q'-> ∀m∈q'.os,m.one=true:=by
 induction l with
 |nil=>intro q h hq;simp only [Ew,bN] at hq;subst hq;exact h
 |cons j l ih=>
  intro q h hq;simp only [Ew] at hq;cases h1:tkI g k j q with
  |none=>rw [h1] at hq;cases hq
  |some q2=>rw [h1] at hq;exact ih (adF h h1) hq
theorem N3 {key:Nat->Nat} {φ:Ph}:bg key φ Un XI:=⟨_,_,rfl,z8,_,_,rfl,z8,_,_,rfl,z8,_,_,rfl,⟨rfl,.s _⟩,_,_,rfl,⟨rfl,.s _⟩,_,_,rfl,z8,_,_,rfl,z8,_,_,rfl,z8,rfl⟩
theorem N4: ∀m∈XI,m.one=true:=by intro m hm;simp [XI] at hm;rcases hm with rfl|rfl|rfl|rfl|rfl|rfl|rfl|rfl<;>rfl
theorem Ih (H:Aa P c g k t f fI fX fn r o)(ao:Tm a 47 σ)(hb: ∃T,W.heap[w0.heap.size]? =some (.cells vs.toArray T (0,0)))(hn:vs.length=8)(h2:σ 2= .pointer (some ⟨w0.heap.size,0,none⟩)){R:Value->World->Prop}(h:R (.tuple #[.agg vs.toArray,σ 3,σ 4]) W): bodyPost P fn (λe W=> ∃v,e= .returned v/\R v W) .ret a W:=by
 obtain ⟨Iy,p1,p2,p3,p4⟩:=H.tyO;obtain ⟨T,hb⟩:=hb;refine ⟨ao.defers,.tuple #[.agg vs.toArray,σ 3,σ 4],?_,_,rfl,h⟩;have akJ:(loadVar t.tO ⟨w0.heap.size,0,none⟩).run P W= .ok (.agg vs.toArray) W:=by have:=Cc (P:=P) (w:=W) (g:=w0.heap.size) (off:=0) H.hT p1 p2 (by rw [hn,p4]) (wOf hb (by simp));simpa [abX,afw] using this
 have Nk:a.tmps[2]?.getD undef= .pointer (some ⟨w0.heap.size,0,none⟩):=by have:=(ao.get 2).trans h2;simpa using this
 have h3':a.tmps[3]?.getD undef=σ 3:=by have:=ao.get 3;simpa using this
 have h4':a.tmps[4]?.getD undef=σ 4:=by have:=ao.get 4;simpa using this
 simp [results,H.res,Nk,h3',h4',akJ,asAddr]
end
end Dn
/-
  Parts that are taken off bytes, into a variable of eight parts: from the beginning to the end. Conditions: none.
-/
namespace Dn
open Go
section
variable {P:Program}{c:Ctx}{g:Nat->List MV->Option MV}{k:TkF}{t:XJ}{f fI fX:Nat}{fn:Func}{r:Nat->Nat}{o:Nat->Oper} {φ0 φ1 φ φt:Ph} {w0 W W':World} {q q':P9}{vs:List Value}{a:Act} {σ:Nat->Value}{res:MV}
def Ii (c:Ctx) (φ0:Ph)(w0:World)(res:MV)(v:Value)(W:World):Prop:= ∃φ',Trans (λb=>w0.heap.size<=b) φ0 w0 φ' W/\oS φ' W/\ ∃ms arr,res= .b8 ms/\v= .tuple arr/\bg c.key φ' arr.toList ms
theorem xc.sea1 (h:xc c φ0 w0 φ W q vs): ∃φt vb,gZ φ φt/\oS φt W/\(∀b o,b≠w0.heap.size+1->b≠w0.heap.size+2->φt b o=φ b o)/\φt (w0.heap.size+1) 0=some vb/\φt (w0.heap.size+1) 1=some (.int .i64 q.e)/\gY c.key φt [vb] (.list q.xs)/\ ∀j,φt (w0.heap.size+2) j=vs[j]? :=by
 obtain ⟨vb,Tr,b1,b2⟩:=h.hr;obtain ⟨To,c1⟩:=h.ho;have f1: ∀o,φ (w0.heap.size+1) o=none:=λo=>h.f 1 o (by decide);have l1:=H7 (vs:=[vb,.int .i64 q.e]) f1;have f2: ∀o,KN φ (w0.heap.size+1) [vb,.int .i64 q.e] (w0.heap.size+2) o=none:=λo=>by unfold KN;rw [if_neg (by omega)];exact h.f 2 o (by decide)
 have l2:=H7 (vs:=vs) f2;refine ⟨_,vb,l1.trans l2,De (De h.kZ b1) c1,λb o n1 n2=>by unfold KN;rw [if_neg n2,if_neg n1],?_,?_,b2.mono (l1.trans l2),λj=>by simp [KN]⟩
 ·exact l2 _ _ _ (by simp [KN])
 ·exact l2 _ _ _ (by simp [KN])
theorem xc.close (h:xc c φ0 w0 φ W q vs)(hle:gZ φ φt)(hi:oS φt W) (hφ: ∀b o,b≠w0.heap.size+1->b≠w0.heap.size+2->φt b o=φ b o)(hs:W'.heap.size=W.heap.size)(hr:Rest W W')(ho: ∀b,b≠w0.heap.size->W'.heap[b]? =W.heap[b]?):Trans (λb=>w0.heap.size<=b) φ0 w0 φt W'/\oS φt W':=by
 refine ⟨⟨h.tr.ph.trans hle,λb hb hl=> ?_,λb o hb=> ?_,by rw [hs];exact h.tr.size,h.tr.rest.trans hr⟩,λb o u hu=>AX (hi b o u hu) λhl=>ho b λe=> ?_⟩
 ·rw [ho b (by omega)];exact h.tr.heap b hb hl
 ·rw [hφ b o (by omega) (by omega)];exact h.tr.free b o hb
 ·rw [hφ b o (by omega) (by omega),e,show w0.heap.size=w0.heap.size+0 from rfl,h.f 0 o (by decide)] at hu;cases hu
theorem Tm.afK {ops:Array Oper}{o:Oper}{x n:Nat}{op:Op} {w w':World}{Q:Exit->Act->World->Prop}{K:Act->World->Prop}(ao:Tm a n σ)(hi:ops[x]? =some o)(ho:gq o op)(bF:(execOp (ev σ) o).run P w= .ok .skip w')(h:K a w'):wpOp P ops Q x K a w:=by unfold wpOp;simp only [hi,ae3,ho.guard,if_true];left;unfold Oper.wp;rw [ao.eval,bF];simp only [Oper.upon];rw [ho.dst];exact h
theorem Uq {p oi:Oper}{t:TypeId}{x y:Operand}(h:gq p (.store t x y)):(Ky c p||sK oi p)=false:=by
 have h1:Ky c p=false:=by simp [Ky,gQ,zC,h.op]
 have h2:sK oi p=false:=by unfold sK;simp [X0,h.op]
 rw [h1,h2];rfl
theorem lW {p:Oper}{d:Nat}{op:Op}(h:ak p d op)(hn: ∀t x,op≠ .load t x):still c p=false:=by unfold still;rw [h.op];cases op<;>first|rfl|exact absurd rfl (hn _ _)
theorem Ex: ∀u∈Un,u.oneCell'=true:=by intro m hm;simp [Un] at hm;rcases hm with rfl|rfl|rfl|rfl|rfl|rfl|rfl|rfl<;>rfl
theorem Ur {key:Nat->Nat} {φ:Ph}:gY key φ [afk none 0 0] (.list []):= .list none 0 [] 0 0 0 (λ_=>[]) (by simp) (by simp) (by simp) (by simp) (by simp)
theorem So {φ':Ph}{ms:List MV}{xs:List MV}{e:Int}{us:List Value}{v:Value}(t1:Trans (λb=>w0.heap.size<=b) φ0 w0 φ' W)(t2:oS φ' W)(h1:ga c.key φ' us ms)(h2:gY c.key φ' [v] (.list xs)):Ii c φ0 w0 (.b8 [.agg ms,.list xs,.i .i64 e]) (.tuple #[.agg us.toArray,v,.int .i64 e]) W:=⟨φ',t1,t2,_,_,rfl,rfl,_,_,rfl,P8 h1,_,_,rfl,⟨rfl,h2⟩,_,_,rfl,z8,rfl⟩
theorem V1 (H:Aa P c g k t f fI fX fn r o)(hM:xc c φ0 w0 φ W q vs)(ao:Tm a 47 σ)(h2:σ 2= .pointer (some ⟨w0.heap.size,0,none⟩))(h5:σ 5= .pointer (some ⟨w0.heap.size+1,0,none⟩)){Q:Exit->Act->World->Prop}(hQ: ∀a W,bodyPost P fn (λe W=> ∃v,e= .returned v/\Ii c φ0 w0 (.b8 [.agg XI,.list [],.i .i64 q.e]) v W) .ret a W->Q .ret a W): (Code.seq (.region (r 7) #[o 31,o 32,o 33,o 34,o 35,o 36,o 37,o 38] true) .ret).wp P Q a W:=by
 obtain ⟨φt,vb,l1,l2,l3,l4,l5,l6,l7⟩:=hM.sea1;obtain ⟨Iy,p1,p2,p3,p4⟩:=H.tyO;obtain ⟨IR,r1,r2,r3,r4⟩:=H.tyR;obtain ⟨Ie,e1,e2,e3⟩:=H.tye;obtain ⟨zs,T2,b1,b2⟩:=hM.h2;refine wp_seq (P6 (c:=c) (φ:=φt) (ord:=[0,1,2,3,4,5,6,7]) H.mix H.d7 λlisted uo=> ?_);obtain ⟨W0,ZV⟩: ∃W0,W0=({W with drawn:=W.drawn+1}:World):=⟨_,rfl⟩
 rw [<-ZV];have hh0:W0.heap=W.heap:=by rw [ZV]
 have Py:Rest W W0:=by rw [ZV];exact ⟨rfl,rfl,rfl⟩
 have Z8:oS φt W0:=by rw [ZV];exact l2
 refine uo.read (v:= .agg Un.toArray) rfl H.ops.Q9 (by decide) (by simp [gQ,H.ops.Q9.op]) (by simp [fC,H.ops.Q9.op]) (lW H.ops.Q9 (by simp)) (by simp [zB,H.ops.Q9.op]) ao Z8 (λw' _=>GU H.ops.Q9 H.blO w') (λa ao uo=> ?_);refine uo.read (v:= .pointer (some ⟨w0.heap.size+1,0,none⟩)) rfl H.ops.Ra (by decide) (by simp [gQ,H.ops.Ra.op]) (by simp [fC,H.ops.Ra.op]) (lW H.ops.Ra (by simp)) (by simp [zB,H.ops.Ra.op]) ao Z8 (λw' _=>(aA H.ops.Ra w').trans (by show BY (By (σ 5)) w'=_;rw [h5])) (λa ao uo=> ?_);refine uo.read (v:= .pointer (some ⟨w0.heap.size+1,0,none⟩)) rfl H.ops.Rb (by decide) (by simp [gQ,H.ops.Rb.op]) (by simp [fC,H.ops.Rb.op]) (lW H.ops.Rb (by simp)) (by simp [zB,H.ops.Rb.op]) ao Z8 (λw' _=>pZ H.ops.Rb rfl w') (λa ao uo=> ?_);refine uo.read (v:= .pointer (some ⟨w0.heap.size+1,0+1,none⟩)) rfl H.ops.Sk (by decide) (by simp [gQ,H.ops.Sk.op]) (by simp [fC,H.ops.Sk.op]) (lW H.ops.Sk (by simp)) (by simp [zB,H.ops.Sk.op]) ao Z8 (λw' _=>kw H.ops.Sk H.hT r1 r2 (by rw [r3];rfl) rfl w') (λa ao uo=> ?_);refine uo.Z6 (v:= .int .i64 q.e) rfl H.ops.Ub (by decide) (by simp [gQ,H.ops.Ub.op]) (by simp [fC,H.ops.Ub.op]) (by simp [jP,nk,H.ops.Ub.op]) H.s35 ao Z8 (λw' hw=>vF H.ops.Ub (lV H.hT e1 e2 e3 (hw _ _ _ l5))) (λa ao uo=> ?_);refine uo.akF (o:=o 36) rfl (λy hy p hp=> ?_) (by simp [gQ,H.ops.VY.op]) (ao.afK rfl H.ops.VY (Df H.ops.VY H.hT p1 (by rw [p4];rfl) (by show σ 2=_;exact h2) rfl Ex (by rw [hh0];exact b1) (by rw [b2];rfl)) ?_)
 ·have hy:y=6\/y=7:=by simpa using hy
  rcases hy with rfl|rfl<;>cases hp
  ·exact GS H.ops.Uc (by simp)
  ·exact GS H.ops.VZ (by simp)
 obtain ⟨W1,Ij⟩: ∃W1,W1=W0.setRow w0.heap.size Un.toArray:=⟨_,rfl⟩
 rw [<-Ij];have sw:W1.heap[w0.heap.size]? =some (.cells Un.toArray T2 (0,0)):=by rw [Ij];exact gV _ (by rw [hh0];exact b1)
 obtain ⟨t1,t2⟩:=hM.close (W':=W1) l1 l2 l3 (by rw [Ij,setRow_size,hh0]) (Py.trans (by rw [Ij];exact .setRow _ _ _)) (λb hb=>by rw [Ij,setRow_other _ _ _ _ hb,hh0]);refine ⟨⟨λoi hg=> ?_,t2⟩,?_⟩
 ·have Q6:pX c oi #[o 31,o 32,o 33,o 34,o 35,o 36,o 37,o 38] 5=(Ky c (o 36)||sK oi (o 36)):=rfl;rw [Q6,Uq H.ops.VY] at hg;cases hg
 obtain ⟨_,_,_,ahn,_⟩:=uo.facts (o:=o 36) rfl;refine ahn.read (v:= .slice none 0 0) rfl H.ops.Uc (by decide) (by simp [gQ,H.ops.Uc.op]) (by simp [fC,H.ops.Uc.op]) (lW H.ops.Uc (by simp)) (by simp [zB,H.ops.Uc.op]) ao t2 (λw' _=>bP H.ops.Uc w') (λa ao uo=> ?_);refine uo.read (v:= .int .i64 q.e) rfl H.ops.VZ (by decide) (by simp [gQ,H.ops.VZ.op]) H.m38 (lW H.ops.VZ (by simp)) (by simp [zB,H.ops.VZ.op]) ao t2 (λw' _=>bP H.ops.VZ w') (λa ao uo=> ?_);refine uo.done ?_;refine wp_ret (hQ _ _ ?_);exact Ih H ao ⟨T2,sw⟩ rfl (by show σ 2=_;exact h2) (So t1 t2 (N3.Vj N4) Ur)
theorem Z9 (H:Aa P c g k t f fI fX fn r o)(hM:xc c φ0 w0 φ W q vs)(h1: ∀m∈q.os,m.one=true)(ao:Tm a 47 σ)(h2:σ 2= .pointer (some ⟨w0.heap.size,0,none⟩))(h5:σ 5= .pointer (some ⟨w0.heap.size+1,0,none⟩))(h6:σ 6= .pointer (some ⟨w0.heap.size+2,0,none⟩)){Q:Exit->Act->World->Prop}(hQ: ∀a W,bodyPost P fn (λe W=> ∃v,e= .returned v/\Ii c φ0 w0 (.b8 [.agg q.os,.list q.xs,.i .i64 0]) v W) .ret a W->Q .ret a W): (Code.seq (.region (r 10) #[o 47,o 48,o 49,o 50,o 51,o 52,o 53,o 54] true) .ret).wp P Q a W:=by
 obtain ⟨φt,vb,l1,l2,l3,l4,l5,l6,l7⟩:=hM.sea1;obtain ⟨Iy,p1,p2,p3,p4⟩:=H.tyO;obtain ⟨IR,r1,r2,r3,r4⟩:=H.tyR;obtain ⟨IY,y1,y2,y3⟩:=H.tyY;obtain ⟨zs,T2,b1,b2⟩:=hM.h2;have hos:=(hM.os.mono l1).Vj h1;have hn:=hM.n;refine wp_seq (P6 (c:=c) (φ:=φt) (ord:=[0,1,2,3,4,5,6,7]) H.mix H.d10 λlisted uo=> ?_);obtain ⟨W0,ZV⟩: ∃W0,W0=({W with drawn:=W.drawn+1}:World):=⟨_,rfl⟩
 rw [<-ZV];have hh0:W0.heap=W.heap:=by rw [ZV]
 have Py:Rest W W0:=by rw [ZV];exact ⟨rfl,rfl,rfl⟩
 have Z8:oS φt W0:=by rw [ZV];exact l2
 refine uo.Z6 (v:= .agg vs.toArray) rfl H.ops.ZH (by decide) (by simp [gQ,H.ops.ZH.op]) (by simp [fC,H.ops.ZH.op]) (by simp [jP,nk,H.ops.ZH.op]) H.s47 ao Z8 (λw' hw=>vF H.ops.ZH (by show (abX t.tO (σ 6)).run P w'=_;rw [h6];exact Cc H.hT p1 p2 (by rw [hn,p4]) (λj v hj=>by rw [acu];exact hw _ _ _ (by rw [l7];exact hj)))) (λa ao uo=> ?_);refine uo.read (v:= .pointer (some ⟨w0.heap.size+1,0,none⟩)) rfl H.ops.Yz (by decide) (by simp [gQ,H.ops.Yz.op]) (by simp [fC,H.ops.Yz.op]) (lW H.ops.Yz (by simp)) (by simp [zB,H.ops.Yz.op]) ao Z8 (λw' _=>(aA H.ops.Yz w').trans (by show BY (By (σ 5)) w'=_;rw [h5])) (λa ao uo=> ?_);refine uo.read (v:= .pointer (some ⟨w0.heap.size+1,0,none⟩)) rfl H.ops.h49 (by decide) (by simp [gQ,H.ops.h49.op]) (by simp [fC,H.ops.h49.op]) (lW H.ops.h49 (by simp)) (by simp [zB,H.ops.h49.op]) ao Z8 (λw' _=>pZ H.ops.h49 rfl w') (λa ao uo=> ?_);refine uo.read (v:= .pointer (some ⟨w0.heap.size+1,0+0,none⟩)) rfl H.ops.V0 (by decide) (by simp [gQ,H.ops.V0.op]) (by simp [fC,H.ops.V0.op]) (lW H.ops.V0 (by simp)) (by simp [zB,H.ops.V0.op]) ao Z8 (λw' _=>kw H.ops.V0 H.hT r1 r2 (by rw [r3];rfl) rfl w') (λa ao uo=> ?_);refine uo.Z6 (v:=vb) rfl H.ops.h51 (by decide) (by simp [gQ,H.ops.h51.op]) (by simp [fC,H.ops.h51.op]) (by simp [jP,nk,H.ops.h51.op]) H.s51 ao Z8 (λw' hw=>vF H.ops.h51 (lV H.hT y1 y2 y3 (hw _ _ _ l4))) (λa ao uo=> ?_);refine uo.akF (o:=o 52) rfl (λy hy p hp=> ?_) (by simp [gQ,H.ops.h52.op]) (ao.afK rfl H.ops.h52 (Df H.ops.h52 H.hT p1 (by rw [p4,hn]) (by show σ 2=_;exact h2) rfl hos.cells (by rw [hh0];exact b1) (by rw [b2,hn])) ?_)
 ·have hy:y=6\/y=7:=by simpa using hy
  rcases hy with rfl|rfl<;>cases hp
  ·exact GS H.ops.h53 (by simp)
  ·exact GS H.ops.ZI (by simp)
 obtain ⟨W1,Ij⟩: ∃W1,W1=W0.setRow w0.heap.size vs.toArray:=⟨_,rfl⟩
 rw [<-Ij];have sw:W1.heap[w0.heap.size]? =some (.cells vs.toArray T2 (0,0)):=by rw [Ij];exact gV _ (by rw [hh0];exact b1)
 obtain ⟨t1,t2⟩:=hM.close (W':=W1) l1 l2 l3 (by rw [Ij,setRow_size,hh0]) (Py.trans (by rw [Ij];exact .setRow _ _ _)) (λb hb=>by rw [Ij,setRow_other _ _ _ _ hb,hh0]);refine ⟨⟨λoi hg=> ?_,t2⟩,?_⟩
 ·have Q6:pX c oi #[o 47,o 48,o 49,o 50,o 51,o 52,o 53,o 54] 5=(Ky c (o 52)||sK oi (o 52)):=rfl;rw [Q6,Uq H.ops.h52] at hg;cases hg
 obtain ⟨_,_,_,ahn,_⟩:=uo.facts (o:=o 52) rfl;refine ahn.read (v:=vb) rfl H.ops.h53 (by decide) (by simp [gQ,H.ops.h53.op]) H.m53 (lW H.ops.h53 (by simp)) (by simp [zB,H.ops.h53.op]) ao t2 (λw' _=>bP H.ops.h53 w') (λa ao uo=> ?_);refine uo.read (v:= .int .i64 0) rfl H.ops.ZI (by decide) (by simp [gQ,H.ops.ZI.op]) (by simp [fC,H.ops.ZI.op]) (lW H.ops.ZI (by simp)) (by simp [zB,H.ops.ZI.op]) ao t2 (λw' _=>bP H.ops.ZI w') (λa ao uo=> ?_);refine uo.done ?_;refine wp_ret (hQ _ _ ?_);exact Ih H ao ⟨T2,sw⟩ hn (by show σ 2=_;exact h2) (So t1 t2 hos l6)
theorem aaa (H:Aa P c g k t f fI fX fn r o)(hM:xc c φ0 w0 φ W q vs)(ao:Tm a 47 σ)(h2:σ 2= .pointer (some ⟨w0.heap.size,0,none⟩)){Q:Exit->Act->World->Prop}(hQ: ∀a W,bodyPost P fn (λe W=> ∃v,e= .returned v/\Ii c φ0 w0 (.b8 [.agg XI,.list [],.i .i64 3]) v W) .ret a W->Q .ret a W): (Code.seq (.region (r 9) #[o 43,o 44,o 45,o 46] false) .ret).wp P Q a W:=by
 obtain ⟨φt,vb,l1,l2,l3,_⟩:=hM.sea1;obtain ⟨Iy,p1,p2,p3,p4⟩:=H.tyO;obtain ⟨zs,T2,b1,b2⟩:=hM.h2;refine wp_seq (wp_region ?_);rw [show sh (#[o 43,o 44,o 45,o 46]:Array Oper).size=[0,1,2,3] from rfl];refine ao.step (v:= .agg Un.toArray) rfl H.ops.h43 (by decide) (GU H.ops.h43 H.blO _) (λa ao=> ?_);refine ao.BG rfl H.ops.h44 (Df H.ops.h44 H.hT p1 (by rw [p4];rfl) (by show σ 2=_;exact h2) rfl Ex b1 (by rw [b2];rfl)) ?_;obtain ⟨W1,Ij⟩: ∃W1,W1=W.setRow w0.heap.size Un.toArray:=⟨_,rfl⟩
 rw [<-Ij];have sw:W1.heap[w0.heap.size]? =some (.cells Un.toArray T2 (0,0)):=by rw [Ij];exact gV _ b1
 obtain ⟨t1,t2⟩:=hM.close (W':=W1) l1 l2 l3 (by rw [Ij,setRow_size]) (by rw [Ij];exact .setRow _ _ _) (λb hb=>by rw [Ij,setRow_other _ _ _ _ hb]);refine ao.step (v:= .slice none 0 0) rfl H.ops.h45 (by decide) (bP H.ops.h45 _) (λa ao=> ?_);refine ao.step (v:= .int .i64 3) rfl H.ops.h46 (by decide) (bP H.ops.h46 _) (λa ao=> ?_);refine wp_ret (hQ _ _ ?_);exact Ih H ao ⟨T2,sw⟩ rfl (by show σ 2=_;exact h2) (So t1 t2 (N3.Vj N4) Ur)
end
end Dn
/-
  The walk, whole. Conditions: none.
-/
namespace Dn
open Go
theorem cu.arv {c:Ctx} {Z Z':Nat->Prop} {φ φ':Ph} {W W':World}{v:Value}{ty:Nat}{xs:List MV}(h:cu c (bC.plain Z) (na c.key φ) W v ⟨ty,false,xs⟩)(hz: ∀b,v.ownBlock=some b->Z' b)(hp:gZ φ φ')(hf: ∀b o,v.ownBlock=some b->φ' b o=φ b o)(hh: ∀b,v.ownBlock=some b->b<W.heap.size->W'.heap[b]? =W.heap[b]?): cu c (bC.plain Z') (na c.key φ') W' v ⟨ty,false,xs⟩:=by
 obtain ⟨I,cells,q1,q2,q3,q4,q5⟩:=h.row;refine ⟨I,cells,q1,q2,⟨q3.1,?_⟩,q4.mono hp,λb hb=>⟨hz b hb,λoff u hu=>(q5 b hb).2.1 off u ?_,λhc=>hc.elim⟩⟩
 ·rcases q3.2 with h6|⟨g,cap,cY,r1,r2,r3,r4⟩
  ·exact .inl h6
  ·exact .inr ⟨g,cap,cY,r1,r2,(hh g (by rw [r1];rfl) (aZ r3)).trans r3,r4⟩
 ·have hu:φ' b off=some u:=hu;rw [hf b off hb] at hu;exact hu
section
variable {P:Program}{c:Ctx}{g:Nat->List MV->Option MV}{n:CN}{fn:Func}{r:Nat->Nat}{o:Nat->Oper} {φ0 φ1:Ph} {w0 W W':World}{bc br bd bv:Nat} {s s':CS} {v v' l:Int}{a:Act} {σ:Nat->Value}{Q:Exit->Act->World->Prop}
theorem tm1 (v0:Value)(k:Nat):Tm {tmps:= #[v0]++adf k undef,defers:=[]} (k+1) (rl (λ_=>undef) 0 v0):=by
 refine ⟨rfl,by simp [agb],λq=> ?_⟩;by_cases h0:q=0
 ·subst h0;show (#[v0]++adf k undef).getD 0 undef=v0;simp [adk]
 have e:ade q 0=false:=by
  cases hq:ade q 0 with
  |false=>rfl
  |true=>exact absurd (ab1 hq) h0
 simp only [rl,e,cond_false];have h3:1<=q:=by omega
 simp [adk,Array.getElem?_replicate,show¬q<1 by omega];by_cases hk:q-1<k<;>simp [hk]
theorem akK {φ:Ph}{W:World}(hi:oS φ W){b:Nat}(hb:W.heap.size<=b)(o:Nat):φ b o=none:=by
 cases hq:φ b o with
 |none=>rfl
 |some u=>exact absurd (aaW W _ (hi _ _ _ hq)) (Nat.not_lt.2 hb)
end
end Dn
/-
  Parts that are taken off bytes, into a variable of eight parts: all of it. Conditions: none.
-/
namespace Dn
open Go
section
variable {P:Program}{c:Ctx}{g:Nat->List MV->Option MV}{k:TkF}{t:XJ}{f fI fX:Nat}{fn:Func}{r:Nat->Nat}{o:Nat->Oper} {φ0 φ1 φ φt:Ph} {w0 W W':World} {q q':P9}{vs:List Value}{a:Act} {σ:Nat->Value}{res:MV}
structure TkV (w0:World) (σ:Nat->Value):Prop where
 h2:σ 2= .pointer (some ⟨w0.heap.size,0,none⟩)
 h5:σ 5= .pointer (some ⟨w0.heap.size+1,0,none⟩)
 h6:σ 6= .pointer (some ⟨w0.heap.size+2,0,none⟩)
theorem V2 (H:Aa P c g k t f fI fX fn r o)(hM:xc c φ0 w0 φ W q vs)(h1: ∀m∈q.os,m.one=true)(ao:Tm a 47 σ)(hV:TkV w0 σ)(hm:(if q.e=0 then (match g k.may [.agg q.os] with
  |some (.b true)=>some (.b8 [.agg q.os,.list q.xs,.i .i64 0])
  |some (.b false)=>some (.b8 [.agg XI,.list [],.i .i64 3])
  |_=>none) else some (.b8 [.agg XI,.list [],.i .i64 q.e]))=some res):
 (Code.seq (.block 0 (.seq (.region (r 6) #[o 25,o 26,o 27,o 28,o 29,o 30] false) (.cond (.tmp 26) (.seq (.region (r 7) #[o 31,o 32,o 33,o 34,o 35,o 36,o 37,o 38] true) .ret) (.seq (.region (r 8) #[o 39,o 40,o 41,o 42] false) (.cond (.tmp 37) (.seq (.region (r 9) #[o 43,o 44,o 45,o 46] false) .ret) .skip))))) (.seq (.region (r 10) #[o 47,o 48,o 49,o 50,o 51,o 52,o 53,o 54] true) .ret)).wp P (bodyPost P fn λe W=> ∃v,e= .returned v/\Ii c φ0 w0 res v W) a W:=by
 obtain ⟨Iy,p1,p2,p3,p4⟩:=H.tyO;obtain ⟨IR,r1,r2,r3,r4⟩:=H.tyR;obtain ⟨Ie,e1,e2,e3⟩:=H.tye;refine wp_seq (wp_block ?_);refine wp_seq (wp_region ?_);rw [show sh (#[o 25,o 26,o 27,o 28,o 29,o 30]:Array Oper).size=[0,1,2,3,4,5] from rfl];refine ao.step (v:= .pointer (some ⟨w0.heap.size+1,0,none⟩)) rfl H.ops.Ma (by decide) ((aA H.ops.Ma _).trans (by show BY (By (σ 5)) W=_;rw [hV.h5])) (λa ao=> ?_);refine ao.step rfl H.ops.PZ (by decide) (pZ H.ops.PZ rfl _) (λa ao=> ?_);refine ao.step rfl H.ops.Sh (by decide) (kw H.ops.Sh H.hT r1 r2 (q:=1) (by rw [r3];rfl) rfl _) (λa ao=> ?_);refine ao.step (v:= .int .i64 q.e) rfl H.ops.Si (by decide) (vF H.ops.Si (lV H.hT e1 e2 e3 (by simpa using hM.lde))) (λa ao=> ?_);refine ao.step (v:= .bool (!decide (q.e=0))) rfl H.ops.Sj (by decide) (adE H.ops.Sj rfl rfl _) (λa ao=> ?_);refine ao.step (v:= .bool (!decide (q.e=0))) rfl H.ops.P0 (by decide) (bP H.ops.P0 _) (λa ao=> ?_);by_cases he:q.e=0;rotate_left
 ·rw [if_neg he,bN] at hm;subst hm;refine ao.cond (b:=true) (by show aa6 (!decide (q.e=0))=_;rw [decide_eq_false he];rfl) ?_;simp only [if_true];exact V1 H hM ao hV.h2 hV.h5 (λa W h=>h)
 rw [if_pos he] at hm;refine ao.cond (b:=false) (by show aa6 (!decide (q.e=0))=_;rw [decide_eq_true he];rfl) ?_;simp only [AI,if_false];refine wp_seq (wp_region ?_);rw [show sh (#[o 39,o 40,o 41,o 42]:Array Oper).size=[0,1,2,3] from rfl];obtain ⟨To,c1⟩:=hM.ho;have hos:=hM.os.Vj h1;refine ao.step (v:= .agg vs.toArray) rfl H.ops.h39 (by decide) (vF H.ops.h39 (by show (abX t.tO (σ 6)).run P W=_;rw [hV.h6];exact Cc H.hT p1 p2 (by rw [hM.n,p4]) (wOf c1 (by simp)))) (λa ao=> ?_);have apb: ∃b,g k.may [.agg q.os]=some (.b b):=by
  cases hg:g k.may [.agg q.os] with
  |none=>rw [hg] at hm;cases hm
  |some m=>rw [hg] at hm;cases m<;>first|exact ⟨_,rfl⟩|(simp at hm)
 obtain ⟨b,hb⟩:=apb;have Fi:dR P k.may #[.agg vs.toArray] W λx W'=> ∃φ',Trans (λb=>W.heap.size<=b) φ W φ' W'/\oS φ' W'/\jR c (λb=>W.heap.size<=b) φ' W' (c.key k.may) x (.b b):=Eu (vs:=[.agg vs.toArray]) (by rw [H.key];exact H.gv.2.2) (H.snd _ _ _ hb) rfl ⟨_,_,rfl,P8 hos,rfl⟩ hM.kZ;refine ao.call rfl H.ops.h40 (by decide) (Uj H.ops.h40 rfl rfl _) Fi ?_;rintro x1 W1 a ⟨φ2,t1,m1,pK⟩ ao;have CF:x1= .bool b:=HT pK;subst CF;have hM1:=hM.grow t1 m1;refine ao.step (v:= .bool (!b)) rfl H.ops.h41 (by decide) (NS H.ops.h41 rfl _) (λa ao=> ?_);refine ao.step (v:= .bool (!b)) rfl H.ops.h42 (by decide) (bP H.ops.h42 _) (λa ao=> ?_);rw [hb] at hm;cases b with
 |false=>simp only [bN] at hm;subst hm;refine ao.cond (b:=true) rfl ?_;simp only [if_true];exact aaa H hM1 ao hV.h2 (λa W h=>h)
 |true=>simp only [bN] at hm;subst hm;refine ao.cond (b:=false) rfl ?_;simp only [AI,if_false];refine wp_skip ?_;exact Z9 H hM1 h1 ao hV.h2 hV.h5 hV.h6 (λa W h=>h)
theorem V3 (H:Aa P c g k t f fI fX fn r o){xs:List MV}(hm:Qb g k xs=some res):gh P c f [.list xs] res:=by
 unfold Qb at hm;cases hq1:Ew g k [0,1,2,5,6,7] ⟨xs,0,XI⟩ with
 |none=>rw [hq1] at hm;cases hm
 |some qa=>
 rw [hq1] at hm;dsimp only at hm;cases hq2:Qa g k 3 100 qa with
 |none=>rw [hq2] at hm;cases hm
 |some qb=>
 rw [hq2] at hm;dsimp only at hm;cases hq3:Qa g k 4 1000 qb with
 |none=>rw [hq3] at hm;cases hm
 |some qc=>
 rw [hq3] at hm;dsimp only at hm;intro φ0 w0 Z0 vs ZL dL iQ;simp only [dS,H.key,H.gvF,AI,if_false] at dL;obtain ⟨x,rest,rfl,hx,uT⟩:=dL;have uT:rest=[]:=uT;subst uT;obtain ⟨hxr,Us,CF⟩:=afJ hx;obtain ⟨ad,cp,hxs,_⟩:=FI hxr;refine (ox (R:=Ii c φ0 w0 res) H.pos H.name H.body (calls_of_wp H.pos H.body ?_)).imp ?_;rotate_left
 ·rintro v W ⟨φ',t1,t2,ms,arr,rfl,rfl,h3⟩;exact ⟨φ',t1.zW ZL,t2,Nt.args h3⟩
 rw [H.tmps];obtain ⟨Iy,p1,p2,p3,p4⟩:=H.tyO;obtain ⟨IL,pl1,pl2⟩:=H.tyL;obtain ⟨II,pi1,pi2,pi3⟩:=H.tyI;obtain ⟨hOi,hOc⟩:=bj p1;obtain ⟨hIi,Q5⟩:=bj pi1;obtain ⟨iO,zO,hiO,hsO,_,hzO,akL⟩:=lc (H.hT _ Iy hOi) hOc;have key: ∀a:Act,Tm a 47 (rl (λ_=>undef) 0 x)->(Ig r o).wp P (bodyPost P fn λe W=> ∃v,e= .returned v/\Ii c φ0 w0 res v W) a w0:=by
  intro a ao;unfold Ig;refine wp_seq (wp_region ?_);rw [show sh (#[o 0,o 1,o 2]:Array Oper).size=[0,1,2] from rfl];refine ao.step rfl H.ops.h0 (by decide) (NZ H.ops.h0 hiO hzO _) (λa ao=> ?_);obtain ⟨W1,Ij⟩: ∃W1,W1=w0.alloc (.cells zO.cells t.tO):=⟨_,rfl⟩
  rw [<-Ij];have s1:W1.heap.size=w0.heap.size+1:=by rw [Ij];simp
  have l1:W1.heap[w0.heap.size]? =some (.cells zO.cells t.tO (0,0)):=by rw [Ij];exact iy w0 _
  have g1: ∀b,b<w0.heap.size->W1.heap[b]? =w0.heap[b]? :=λb hb=>by rw [Ij];exact (db.alloc w0 _ _).rK b hb
  have k1:Rest w0 W1:=by rw [Ij];exact .alloc _ _ _
  refine ao.step (v:= .slice none 0 0) rfl H.ops.h1 (by decide) (bP H.ops.h1 _) (λa ao=> ?_);refine ao.step (v:= .int .i64 0) rfl H.ops.h2 (by decide) (bP H.ops.h2 _) (λa ao=> ?_);refine wp_seq (wp_region ?_);rw [show sh (#[o 3,o 4,o 5,o 6]:Array Oper).size=[0,1,2,3] from rfl];refine ao.step (v:=x) rfl H.ops.h3 (by decide) (aA H.ops.h3 _) (λa ao=> ?_);refine ao.step (v:= .agg #[x,.int .i64 0]) rfl H.ops.h4 (by decide) (GU H.ops.h4 (by rw [hxs];exact H.blR _ _ _) _) (λa ao=> ?_);refine ao.step (v:= .pointer (some ⟨w0.heap.size+1,0,none⟩)) rfl H.ops.h5 (by decide) (by have:=adu (P:=P) (e:=ev (rl (rl (rl (rl (rl (rl (λ_=>undef) 0 x) 2 (.pointer (some ⟨w0.heap.size,0,none⟩))) 3 (.slice none 0 0)) 4 (.int .i64 0)) 7 x) 8 (.agg #[x,.int .i64 0]))) H.ops.h5 W1;rw [s1] at this;exact this) (λa ao=> ?_);obtain ⟨W2,NW⟩: ∃W2,W2=W1.alloc (.cells [x,.int .i64 0].toArray t.tR):=⟨_,rfl⟩
  have hc2:(Value.agg #[x,.int .i64 0]).cells=[x,.int .i64 0].toArray:=rfl;show wpOps P _ _ _ a (W1.alloc (.cells (Value.agg #[x,.int .i64 0]).cells t.tR));rw [hc2,<-NW];have s2:W2.heap.size=w0.heap.size+2:=by rw [NW];simp [s1]
  have l2:W2.heap[w0.heap.size+1]? =some (.cells [x,.int .i64 0].toArray t.tR (0,0)):=by rw [NW,<-s1];exact iy W1 _
  have g2: ∀b,b<w0.heap.size+1->W2.heap[b]? =W1.heap[b]? :=λb hb=>by rw [NW];exact (db.alloc W1 _ _).rK b (by omega)
  have k2:Rest W1 W2:=by rw [NW];exact .alloc _ _ _
  refine ao.step (v:= .pointer (some ⟨w0.heap.size+1,0,none⟩)) rfl H.ops.h6 (by decide) (bP H.ops.h6 _) (λa ao=> ?_);refine wp_seq (wp_region ?_);rw [show sh (#[o 7,o 8,o 9]:Array Oper).size=[0,1,2] from rfl];refine ao.step (v:= .agg Un.toArray) rfl H.ops.h7 (by decide) (GU H.ops.h7 H.blO _) (λa ao=> ?_);refine ao.step (v:= .pointer (some ⟨w0.heap.size+2,0,none⟩)) rfl H.ops.h8 (by decide) (by rw [<-s2];exact NZ H.ops.h8 hiO hzO _) (λa ao=> ?_);obtain ⟨W3,Ui⟩: ∃W3,W3=W2.alloc (.cells zO.cells t.tO):=⟨_,rfl⟩
  rw [<-Ui];have s3:W3.heap.size=w0.heap.size+3:=by rw [Ui];simp [s2]
  have l3:W3.heap[w0.heap.size+2]? =some (.cells zO.cells t.tO (0,0)):=by rw [Ui,<-s2];exact iy W2 _
  have g3: ∀b,b<w0.heap.size+2->W3.heap[b]? =W2.heap[b]? :=λb hb=>by rw [Ui];exact (db.alloc W2 _ _).rK b (by omega)
  have k3:Rest W2 W3:=by rw [Ui];exact .alloc _ _ _
  refine ao.BG rfl H.ops.h9 (Df H.ops.h9 H.hT p1 (by rw [p4];rfl) rfl rfl Ex l3 (by rw [akL,p4];rfl)) ?_;obtain ⟨W4,ZY⟩: ∃W4,W4=W3.setRow (w0.heap.size+2) Un.toArray:=⟨_,rfl⟩
  rw [<-ZY];have s4:W4.heap.size=w0.heap.size+3:=by rw [ZY,setRow_size,s3]
  have l4:W4.heap[w0.heap.size+2]? =some (.cells Un.toArray t.tO (0,0)):=by rw [ZY];exact gV _ l3
  have g4: ∀b,b≠w0.heap.size+2->W4.heap[b]? =W3.heap[b]? :=λb hb=>by rw [ZY];exact setRow_other _ _ _ _ hb
  have k4:Rest W3 W4:=by rw [ZY];exact .setRow _ _ _
  refine wp_seq (wp_region ?_);rw [show sh (#[o 10,o 11,o 12,o 13,o 14,o 15,o 16,o 17,o 18]:Array Oper).size=[0,1,2,3,4,5,6,7,8] from rfl];refine ao.step (v:= .pointer (some ⟨w0.heap.size+1,0,none⟩)) rfl H.ops.B9 (by decide) (aA H.ops.B9 _) (λa ao=> ?_);refine ao.step (v:= .pointer (some ⟨w0.heap.size+2,0,none⟩)) rfl H.ops.FC (by decide) (kw (off:=0) (q:=0) H.ops.FC H.hT p1 p2 (by rw [p3];rfl) rfl _) (λa ao=> ?_);refine ao.step (v:= .pointer (some ⟨w0.heap.size+2,1,none⟩)) rfl H.ops.FD (by decide) (kw (off:=0) (q:=1) H.ops.FD H.hT p1 p2 (by rw [p3];rfl) rfl _) (λa ao=> ?_);refine ao.step (v:= .pointer (some ⟨w0.heap.size+2,2,none⟩)) rfl H.ops.FE (by decide) (kw (off:=0) (q:=2) H.ops.FE H.hT p1 p2 (by rw [p3];rfl) rfl _) (λa ao=> ?_);refine ao.step (v:= .pointer (some ⟨w0.heap.size+2,5,none⟩)) rfl H.ops.FF (by decide) (kw (off:=0) (q:=5) H.ops.FF H.hT p1 p2 (by rw [p3];rfl) rfl _) (λa ao=> ?_);refine ao.step (v:= .pointer (some ⟨w0.heap.size+2,6,none⟩)) rfl H.ops.FG (by decide) (kw (off:=0) (q:=6) H.ops.FG H.hT p1 p2 (by rw [p3];rfl) rfl _) (λa ao=> ?_);refine ao.step (v:= .pointer (some ⟨w0.heap.size+2,7,none⟩)) rfl H.ops.FH (by decide) (kw (off:=0) (q:=7) H.ops.FH H.hT p1 p2 (by rw [p3];rfl) rfl _) (λa ao=> ?_);obtain ⟨ps,zM⟩: ∃ps:List Value,ps=[0,1,2,5,6,7].map λj=>IT (some ⟨w0.heap.size+2,j,none⟩):=⟨_,rfl⟩
  obtain ⟨W5,hW5⟩: ∃W5,W5=W4.alloc (.cells ps.toArray t.tI):=⟨_,rfl⟩
  refine ao.step (v:= .slice (some ⟨w0.heap.size+3,0,none⟩) 6 6) (w':=W5) rfl H.ops.Ko (by decide) ?_ (λa ao=> ?_)
  ·have h6:ps.length=6:=by rw [zM];rfl
   have:=Ns (P:=P) (c:=c) (w:=W4) (t:=t.tL) (I:=IL) (E:=II) (vs:=ps) (parts:= #[(0,IT (some ⟨w0.heap.size+2,0,none⟩)),(1,IT (some ⟨w0.heap.size+2,1,none⟩)),(2,IT (some ⟨w0.heap.size+2,2,none⟩)),(3,IT (some ⟨w0.heap.size+2,5,none⟩)),(4,IT (some ⟨w0.heap.size+2,6,none⟩)),(5,IT (some ⟨w0.heap.size+2,7,none⟩))]) (by rw [pl2];exact H.adz) (by rw [pl2];exact hIi) Q5 (by omega) H.hT (by rw [h6,pi3];decide) (by rw [zM];intro v hv;simp at hv;rcases hv with rfl|rfl|rfl|rfl|rfl|rfl<;>rw [pi3]<;>rfl) (by rw [zM];rfl);have hfl:(ps.flatMap λv=>v.cells.toList)=ps:=by rw [zM];rfl
   rw [h6,hfl,s4,pl2,<-hW5] at this;simp [execOp,H.ops.Ko.op];rw [show (ev _:Operand->Value) (.tmp 12)=IT (some ⟨w0.heap.size+2,0,none⟩) from rfl,show (ev _:Operand->Value) (.tmp 13)=IT (some ⟨w0.heap.size+2,1,none⟩) from rfl,show (ev _:Operand->Value) (.tmp 14)=IT (some ⟨w0.heap.size+2,2,none⟩) from rfl,show (ev _:Operand->Value) (.tmp 15)=IT (some ⟨w0.heap.size+2,5,none⟩) from rfl,show (ev _:Operand->Value) (.tmp 16)=IT (some ⟨w0.heap.size+2,6,none⟩) from rfl,show (ev _:Operand->Value) (.tmp 17)=IT (some ⟨w0.heap.size+2,7,none⟩) from rfl,this];rfl
  have s5:W5.heap.size=w0.heap.size+4:=by rw [hW5];simp [s4]
  have l5:W5.heap[w0.heap.size+3]? =some (.cells ps.toArray t.tI (0,0)):=by rw [hW5,<-s4];exact iy W4 _
  have g5: ∀b,b<w0.heap.size+3->W5.heap[b]? =W4.heap[b]? :=λb hb=>by rw [hW5];exact (db.alloc W4 _ _).rK b (by omega)
  have k5:Rest W4 W5:=by rw [hW5];exact .alloc _ _ _
  have hold: ∀b,b<w0.heap.size->W5.heap[b]? =w0.heap[b]? :=λb hb=>by rw [g5 b (by omega),g4 b (by omega),g3 b (by omega),g2 b (by omega),g1 b hb]
  have Vv: ∀b o,w0.heap.size<=b->φ0 b o=none:=λb o hb=>akK iQ hb o;have apd:oS φ0 W5:=λb o u hu=>AX (iQ b o u hu) λhl=>hold b hl;have hle:=H7 (vs:=ps) λo=>Vv (w0.heap.size+3) o (by omega);have hM:xc c φ0 w0 (KN φ0 (w0.heap.size+3) ps) W5 ⟨xs,0,XI⟩ Un:=by refine ⟨De apd l5,⟨hle,λb hb hl=>hold b hl,λb o hb=>by unfold KN;rw [if_neg (by omega)],by omega,(((k1.trans k2).trans k3).trans k4).trans k5⟩,⟨zO.cells,t.tO,by rw [g5 _ (by omega),g4 _ (by omega),g3 _ (by omega),g2 _ (by omega)];exact l1,by rw [akL,p4]⟩,⟨x,t.tR,by rw [g5 _ (by omega),g4 _ (by omega),g3 _ (by omega)];exact l2,hxr.mono hle⟩,⟨t.tO,by rw [g5 _ (by omega)];exact l4⟩,N3,rfl,λj o hj=> ?_⟩;unfold KN;rw [if_neg (by omega)];exact Vv _ o (by omega)
  obtain ⟨v8,r1,o1,F1⟩:=H.ints;obtain ⟨Kp,r2,o2,F2⟩:=H.text;have uP:=adC (ba:=w0.heap.size+3) (φ1:=KN φ0 (w0.heap.size+3) ps) H.toady F1 (jV:=[0,1,2,5,6,7]) (by decide) (by decide) (λj hj=>by rw [zM];unfold KN;rw [if_pos rfl];simp only [acY,abL hj,afm]) (.refl _) hM hq1;refine ao.call rfl H.ops.NT (by decide) (Uk H.ops.NT rfl rfl rfl _) uP ?_;rintro y1 W6 a ⟨φ6,vs6,_,hM6⟩ ao;have ape:=Z7 N4 hq1;refine wp_seq (wp_region ?_);rw [show sh (#[o 19,o 20,o 21]:Array Oper).size=[0,1,2] from rfl];refine ao.step (v:= .pointer (some ⟨w0.heap.size+1,0,none⟩)) rfl H.ops.OR (by decide) (aA H.ops.OR _) (λa ao=> ?_);refine ao.step (v:= .pointer (some ⟨w0.heap.size+2,3,none⟩)) rfl H.ops.OS (by decide) (kw (off:=0) (q:=3) H.ops.OS H.hT p1 p2 (by rw [p3];rfl) rfl _) (λa ao=> ?_);refine ao.call rfl H.ops.L6 (by decide) (Ul H.ops.L6 rfl rfl rfl rfl _) (Um H.toady F2 (j:=3) (by decide) (.refl _) hM6 hq2) ?_;rintro y2 W7 a ⟨φ7,vs7,_,hM7⟩ ao;have apf:=Up ape hq2;refine wp_seq (wp_region ?_);rw [show sh (#[o 22,o 23,o 24]:Array Oper).size=[0,1,2] from rfl];refine ao.step (v:= .pointer (some ⟨w0.heap.size+1,0,none⟩)) rfl H.ops.L7 (by decide) (aA H.ops.L7 _) (λa ao=> ?_);refine ao.step (v:= .pointer (some ⟨w0.heap.size+2,4,none⟩)) rfl H.ops.L8 (by decide) (kw (off:=0) (q:=4) H.ops.L8 H.hT p1 p2 (by rw [p3];rfl) rfl _) (λa ao=> ?_);refine ao.call rfl H.ops.L9 (by decide) (Ul H.ops.L9 rfl rfl rfl rfl _) (Um H.toady F2 (j:=4) (by decide) (.refl _) hM7 hq3) ?_;rintro y3 W8 a ⟨φ8,vs8,_,hM8⟩ ao;exact V2 H hM8 (Up apf hq3) ao ⟨rfl,rfl,rfl⟩ hm
 exact key _ (tm1 _ 46)
def Ut (g:Nat->List MV->Option MV)(k:TkF):List MV->Option MV
 |[.list xs]=>Qb g k xs
 |_=>none
theorem adH (H:Aa P c g k t f fI fX fn r o){ms:List MV}(hm:Ut g k ms=some res):gh P c f ms res:=by
 unfold Ut at hm;split at hm
 ·exact V3 H hm
 ·cases hm
end
end Dn
/-
  Functions of the library as table entries. Conditions: none.
-/
namespace Dn
open Go
def gy (size bytes:Nat):List MV->Option MV
 |[.list xs]=>bif pS size xs&&IN (xs.length *bytes) (2^46) then some (.fresh xs) else none
 |_=>none
def kz (bytes:Nat):List MV->Option MV
 |[.fresh xs,.i .i64 i,.fresh ys]=>bif decide (0<=i)&&(IN i.toNat xs.length&&(!ys.isEmpty&&IN ((xs.length+ys.length) *bytes) (2^46))) then some (.fresh (xs.take i.toNat++ys++xs.drop i.toNat)) else none
 |_=>none
theorem uV {size bytes:Nat}{ms:List MV}{r:MV}(h:gy size bytes ms=some r): ∃xs,ms=[.list xs]/\r= .fresh xs/\pS size xs=true/\xs.length *bytes<=2^46:=by
 unfold gy at h;split at h
 ·rename_i xs;cases hb:pS size xs&&IN (xs.length *bytes) (2^46) with
  |false=>simp [hb] at h
  |true=>simp only [hb,cond_true,bN] at h;simp only [abM] at hb;exact ⟨xs,rfl,h.symm,hb.1,AS hb.2⟩
 ·cases h
theorem xD {bytes:Nat}{ms:List MV}{r:MV}(h:kz bytes ms=some r): ∃xs ys i,ms=[.fresh xs,.i .i64 ((i:Nat):Int),.fresh ys]/\r= .fresh (xs.take i++ys++xs.drop i)/\i<=xs.length/\ys≠[]/\(xs.length+ys.length) *bytes<=2^46:=by
 unfold kz at h;split at h
 ·rename_i xs i ys;cases hb:decide (0<=i)&&(IN i.toNat xs.length&&(!ys.isEmpty&&IN ((xs.length+ys.length) *bytes) (2^46))) with
  |false=>rw [hb] at h;cases h
  |true=>
   simp only [hb,cond_true,bN] at h;simp only [abM,decide_eq_true_eq,afc] at hb;obtain ⟨h1,h2,h3,h4⟩:=hb;refine ⟨xs,ys,i.toNat,?_,h.symm,AS h2,?_,AS h4⟩
   ·rw [Int.toNat_of_nonneg h1]
   ·intro hy;subst hy;simp at h3
 ·cases h
theorem jT.none (P:Program)(c:Ctx):jT P c (λ_ _=>Option.none):=⟨λf ms r h=>by cases h⟩
theorem jT.Gi {P:Program}{c:Ctx}{g:Nat->List MV->Option MV}{n:Nat}{F:List MV->Option MV}(h:jT P c g)(B6: ∀f,c.key f=f)(hF: ∀ms r,F ms=some r->gh P c n ms r):jT P c (bp n F g):=h.add (λf ms r hk hr=>by rw [B6] at hk;rw [hk];exact hF ms r hr)
def xF:Code->List Oper
 | .region _ ops _=>ops.toList
 | .seq x y=>xF x++xF y
 | .cond _ x y=>xF x++xF y
 | .block _ x=>xF x
 | .loop x=>xF x
 |_=>[]
def iR (fn:Func)(d:Oper)(k:Nat):Oper:=match fn.body with|some c=>(xF c).getD k d|none=>d
def N5 (o:Nat->Oper):Code:= .seq (.region 18 #[o 83,o 84,o 85,o 86,o 87] false) (.seq (.region 19 #[o 88,o 89,o 90,o 91,o 92] false) (.seq (.region 20 #[o 93,o 94] false) .ret))
def iS:Oper:={dst:=none,op:= .move (.tmp 0),type:=0,pos:= "",after:= #[],guard:=none}
end Dn
/-
  Reasoning about functions on values. Conditions: none.
-/
namespace Dn
open Go
section
variable {R:Type}
@[simp] theorem atU (x : Bool)(K : Bool -> Option R) : gB (.b x) K = K x := (rfl)
@[simp] theorem atV (k : IntKind)(x : Int)(K : Int -> Option R) : gI k (.i k x) K = K x := by simp [gI]
@[simp] theorem atW (x : List UInt8)(K : List UInt8 -> Option R) : gS (.s x) K = K x := (rfl)
@[simp] theorem atX (x : List MV)(K : List MV -> Option R) : gL (.list x) K = K x := (rfl)
@[simp] theorem atY (x : kM)(K : kM -> Option R) : gH (.h x) K = K x := (rfl)
@[simp] theorem atZ (x : List MV)(K : List MV -> Option R) : gA (.agg x) K = K x := (rfl)
@[simp] theorem at0 (x : List MV)(K : List MV -> Option R) : gT (.b8 x) K = K x := (rfl)
@[simp] theorem at1 (x : List MV)(K : List MV -> Option R) : gF (.fresh x) K = K x := (rfl)
@[simp] theorem arD (f : Nat)(x : List MV)(K : Nat -> List MV -> Option R) : OT (.func f x) K = K f x := (rfl)
@[simp] theorem at2 (f : Nat)(x : List MV)(K : MV -> Option R) : gR (.func f x) K = K (.func f x) := (rfl)
@[simp] theorem at3 (m : MV)(r : List MV)(K : MV -> List MV -> Option R) : gC (m :: r) K = K m r := (rfl)
@[simp] theorem at4 (K : Option R) : gN [] K = K := (rfl)
@[simp] theorem az {α : Type}(a : α)(K : α -> Option R) : bd (some a) K = K a := (rfl)
@[simp] theorem arE (a b : Nat) : ade a b = decide (a = b) := fm a b
@[simp] theorem akN (K : Option R) : cJ true K = K := (rfl)
@[simp] theorem akO (x y : Option R) : bB true x y = x := (rfl)
@[simp] theorem aiJ (x y : Option R) : bB false x y = y := (rfl)
end
theorem adI {x:Int}(h1: -9223372036854775808<=x)(h2:x<=9223372036854775807):AT .i64 x=x:=by rw [adb];omega
theorem aab {i j:Nat}(h:i+j<2^62):AT .i64 (afx (AT .u64 (AT .i64 ((i:Int)+(j:Int)))) (2^min (aec 1) (abY .u64)))=(((i+j)/2:Nat):Int):=by
 have h1:AT .i64 ((i:Int)+(j:Int))=((i+j:Nat):Int):=by rw [adb];omega
 have h2:AT .u64 ((i+j:Nat):Int)=((i+j:Nat):Int):=by
  have:AT .u64 ((i+j:Nat):Int)=((i+j:Nat):Int)%18446744073709551616:=by simp [AT,IntKind.signed,abY]
  rw [this];omega
 have h3:(2:Int)^min (aec 1) (abY .u64)=2:=by decide
 rw [h1,h2,h3,Int.fdiv_eq_ediv_of_nonneg _ (by omega)];rw [adb];omega
section
variable {σ R:Type}{body:σ->Option (Sum σ R)}
theorem Mg {n:Nat}{s:σ}{r:R}(h:iter body n s=some r): ∀{m:Nat},n<=m->iter body m s=some r:=by
 induction n generalizing s with
 |zero=>cases h
 |succ n ih=>
  intro m hm;obtain ⟨m,rfl⟩: ∃k,m=k+1:=⟨m-1,by omega⟩
  simp only [iter] at h⊢;cases hb:body s with
  |none=>rw [hb] at h;cases h
  |some x=>
   rw [hb] at h;cases x with
   |inl s'=>exact ih h (by omega)
   |inr r'=>exact h
theorem kA {n:Nat}{s:σ}{r:R}(h:iter body n s=some r):Loop body s=some r:=by
 have he: ∃r n,iter body n s=some r:=⟨r,n,h⟩
 unfold Loop;rw [dif_pos he];obtain ⟨m,hm⟩:=Classical.choose_spec he;have h1:=Mg h (Nat.le_max_left n m);have h2:=Mg hm (Nat.le_max_right n m);rw [h1] at h2;exact h2.symm
theorem aac (I:σ->Prop) (μ:σ->Nat)(Q:R->Prop)(h: ∀s,I s->(∃s',body s=some (.inl s')/\I s'/\μ s'<μ s)\/(∃r,body s=some (.inr r)/\Q r)){s:σ}(hs:I s): ∃r,Loop body s=some r/\Q r:=by
 have key: ∀k s,I s->μ s<k-> ∃r,iter body k s=some r/\Q r:=by
  intro k;induction k with
  |zero=>intro s _ h;omega
  |succ k ih=>
   intro s hs hk;rcases h s hs with ⟨s',e,hi,hm⟩|⟨r,e,hq⟩
   ·obtain ⟨r,e2,hq⟩:=ih s' hi (by omega);exact ⟨r,by simp only [iter,e];exact e2,hq⟩
   ·exact ⟨r,by simp only [iter,e],hq⟩
 obtain ⟨r,e,hq⟩:=key (μ s+1) s hs (by omega);exact ⟨r,kA e,hq⟩
theorem aad (S:Nat->σ)(N:Nat)(Q:R->Prop)(P:Nat->Prop)(h0:P 0)(h: ∀k,k<N->P k->(body (S k)=some (.inl (S (k+1)))/\P (k+1))\/(∃r,body (S k)=some (.inr r)/\Q r))(he:P N-> ∃r,body (S N)=some (.inr r)/\Q r): ∃r,Loop body (S 0)=some r/\Q r:=by
 have key: ∀d k,k+d=N->P k-> ∃r,iter body (d+1) (S k)=some r/\Q r:=by
  intro d;induction d with
  |zero=>
   intro k hk hp;have:k=N:=by omega
   subst this;obtain ⟨r,e,hq⟩:=he hp;exact ⟨r,by simp only [iter,e],hq⟩
  |succ d ih=>
   intro k hk hp;rcases h k (by omega) hp with ⟨e,Nl⟩|⟨r,e,hq⟩
   ·obtain ⟨r,e2,hq⟩:=ih (k+1) (by omega) Nl;exact ⟨r,by rw [iter,e];exact e2,hq⟩
   ·exact ⟨r,by rw [iter,e],hq⟩
 obtain ⟨r,e,hq⟩:=key N 0 (by omega) h0;exact ⟨r,kA e,hq⟩
end
end Dn
/-
  From functions on plain values to functions on typed values. Conditions: none.
-/
namespace Dn
open Go
def bO {R:Type}(l:List MV)(K:Nat->Option R):Option R:=K l.length
def ix {α R:Type}(l:List α)(i:Int)(K:α->Option R):Option R:=match (if 0<=i then l[i.toNat]? else none) with|some x=>K x|none=>none
def wC (l:List UInt8):List Int:=l.map λb=>(b.toNat:Int)
@[simp] theorem rY (l : List UInt8) : CG l = (wC l).map (MV.i .u8) := by unfold CG wC; rw [agc]; rfl
def kC {α:Type}(bytes:Nat)(l:List α):Option (List α):=if l.length *bytes<=2^46 then some l else none
def AY {α:Type}(xs:List α)(i j:Int):Option (List α):=if 0<=i/\i<=j/\j<=(xs.length:Int) then some (xs.take i.toNat++xs.drop j.toNat) else none
def rZ {α:Type}(bytes:Nat)(xs:List α)(i:Int)(ys:List α):Option (List α):=if 0<=i/\i.toNat<=xs.length/\ys≠[]/\(xs.length+ys.length) *bytes<=2^46 then some (xs.take i.toNat++ys++xs.drop i.toNat) else none
@[reducible] def V4 {α : Type}(f : α -> MV)(l : List α) : MV := .list (l.map f)
@[reducible] def KO {α : Type}(f : α -> MV)(l : List α) : MV := .fresh (l.map f)
def Sm {A B:Type}(g:B->A)(x:Option A)(y:Option B):Prop:=x=y.map g
section
variable {A B A' B' α:Type}{g:B->A}{T:Option B}
theorem Sm.at {x x':Option A}(e:x=x')(h:Sm g x' T):Sm g x T:=e▸h
theorem aV {l:List MV}{K:List MV->Option A}(h:Sm g (K l) T):Sm g (gA (.agg l) K) T:=h
theorem bh {x:Bool}{K:Bool->Option A}(h:Sm g (K x) T):Sm g (gB (.b x) K) T:=h
theorem bM {x:List UInt8}{K:List UInt8->Option A}(h:Sm g (K x) T):Sm g (gS (.s x) K) T:=h
theorem aQ {x:List MV}{K:List MV->Option A}(h:Sm g (K x) T):Sm g (gL (.list x) K) T:=h
theorem Mh {x:MV}{outs:List MV}{K:MV->List MV->Option A}(h:Sm g (K x outs) T):Sm g (gW (.ef x outs) K) T:=h
theorem cw {x:List MV}{K:List MV->Option A}(h:Sm g (K x) T):Sm g (gT (.b8 x) K) T:=h
theorem mR {x:List MV}{K:List MV->Option A}(h:Sm g (K x) T):Sm g (gF (.fresh x) K) T:=h
theorem Ik {x:List MV}{K:List MV->Option A}(h:Sm g (K x) T):Sm g (gP (.rp x) K) T:=h
theorem sY {f:Nat}{x:List MV}{K:Nat->List MV->Option A}(h:Sm g (K f x) T):Sm g (OT (.func f x) K) T:=h
theorem rm {f:Nat}{x:List MV}{K:MV->Option A}(h:Sm g (K (.func f x)) T):Sm g (gR (.func f x) K) T:=h
theorem aG {k:IntKind}{n:Int}{K:Int->Option A}(h:Sm g (K n) T):Sm g (gI k (.i k n) K) T:=by simpa using h
theorem ai {m:MV}{r:List MV}{K:MV->List MV->Option A}(h:Sm g (K m r) T):Sm g (gC (m::r) K) T:=h
theorem ay {K:Option A}(h:Sm g K T):Sm g (gN [] K) T:=h
theorem ap {x:Option A'}{y:Option B'}{f:B'->A'}{K:A'->Option A} {K':B'->Option B}(h:Sm f x y)(hk: ∀b,Sm g (K (f b)) (K' b)):Sm g (bd x K) (bd y K'):=by
 unfold Sm at h;subst h;cases y with
 |none=>rfl
 |some b=>exact hk b
theorem aR {p:Prop}[Decidable p]{X Y:Option A} {X' Y':Option B}(h1:Sm g X X')(h2:Sm g Y Y'):Sm g (bB (decide p) X Y) (if p then X' else Y'):=by by_cases h:p<;>simpa [h] using (by assumption)
theorem aL {c:Bool}{X Y:Option A} {X' Y':Option B}(h1:Sm g X X')(h2:Sm g Y Y'):Sm g (bB c X Y) (if c then X' else Y'):=by cases c<;>simpa using (by assumption)
theorem ck {p:Prop}[Decidable p]{X:Option A} {X':Option B}(h1:Sm g X X'):Sm g (cJ (decide p) X) (if p then X' else none):=by
 by_cases h:p
 ·simpa [h] using h1
 ·simp [h,cJ,Sm]
theorem adJ {c:Bool}{X:Option A} {X':Option B}(h1:Sm g X X'):Sm g (cJ c X) (if c then X' else none):=by
 cases c
 ·simp [cJ,Sm]
 ·simpa using h1
theorem bT {c:Bool}{X:Option A}(hc:c=true)(h:Sm g X T):Sm g (cJ c X) T:=by subst hc;exact h
theorem jW {c:Bool}{X Y:Option A}(hc:c=true)(h:Sm g X T):Sm g (bB c X Y) T:=by subst hc;exact h
theorem jX {c:Bool}{X Y:Option A}(hc:c=false)(h:Sm g Y T):Sm g (bB c X Y) T:=by subst hc;exact h
theorem vG {l:List MV}{n:Nat}{K:Nat->Option A}(e:l.length=n)(h:Sm g (K n) T):Sm g (bO l K) T:=by subst e;exact h
theorem bH {l:List MV}{M:List α}{f:α->MV}{i:Int}{K:MV->Option A} {K':α->Option B}(e:l=M.map f)(h: ∀y,Sm g (K (f y)) (K' y)):Sm g (idx l i K) (ix M i K'):=by
 subst e;unfold idx afW ix;by_cases hi:0<=i
 ·simp only [hi,if_true,acY];cases M[i.toNat]? with
  |none=>rfl
  |some y=>exact h y
 ·simp only [hi,if_false];rfl
theorem GV {R:Type}{a b x:Option R}(h1:a=x)(h2:b=x):both a b=x:=by subst h1;subst h2;unfold both;rw [if_pos rfl]
theorem N6 {X Y:Option A}{T:Option B}(e:Y=X)(h:Sm g X T):Sm g Y T:=by rw [e];exact h
def N7 {R:Type}(l:List Int)(K:List UInt8->Option R):Option R:=if l.all isByte then K (l.map λn=>UInt8.ofNat n.toNat) else none
theorem aae {R:Type}{M:List Int}: ∀{K:List UInt8->Option R},Kx (M.map (MV.i .u8)) K=N7 M K:=by
 induction M with
 |nil=>intro K;rfl
 |cons n M ih=>intro K;simp only [afA,Kx,byK,gI,decide_true,cond_true,ih];cases h:isByte n<;>simp [cJ,N7,h]
theorem aaf {l:List MV}{M:List Int}{K:List UInt8->Option A} {K':List UInt8->Option B}(e:l=M.map (MV.i .u8))(h: ∀b,Sm g (K b) (K' b)):Sm g (Kx l K) (N7 M K'):=by
 subst e;rw [aae];unfold N7;split
 ·exact h _
 ·rfl
theorem fV {d:A}{a:B}(e:d=g a):Sm g (some d) (some a):=by subst e;rfl
theorem adK {p k:Nat}{K:Nat->Option A}{X:Option B}(h:k=p->Sm g (K p) X):Sm g (Kr [p] k K) (if k=p then X else none):=by
 by_cases hk:k=p
 ·subst hk;rw [if_pos rfl];unfold Kr;rw [show ade k k=true from Nat.beq_refl k];exact h rfl
 ·rw [if_neg hk];unfold Kr;rw [show ade k p=false from by simpa using hk];rfl
theorem qu {p q k:Nat}{r:List Nat}{K:Nat->Option A}{X Y:Option B}(h:k=p->Sm g (K p) X)(h2:Sm g (Kr (q::r) k K) Y):Sm g (Kr (p::q::r) k K) (if k=p then X else Y):=by
 by_cases hk:k=p
 ·subst hk;rw [if_pos rfl];unfold Kr;rw [show ade k k=true from Nat.beq_refl k];exact h rfl
 ·rw [if_neg hk];unfold Kr;rw [show ade k p=false from by simpa using hk];exact h2
theorem xG {n:Nat}{l:List MV}{M:List α}{f:α->MV}(e:l=M.map f)(h: ∀x,(f x).w=n):pS n l=true:=by subst e;unfold pS;rw [List.all_map,abN];intro x _;simp [h x]
theorem Qd {σ σ' ρ ρ':Type}{e:σ'->σ}{f:ρ'->ρ}{K:σ->Option (Sum σ ρ)} {K':σ'->Option (Sum σ' ρ')}(h: ∀s,Sm (Sum.map e f) (K (e s)) (K' s))(n:Nat)(s:σ'):iter K n (e s)=(iter K' n s).map f:=by
 induction n generalizing s with
 |zero=>rfl
 |succ n ih=>
  have:=h s;unfold Sm at this;simp only [iter,this];cases K' s with
  |none=>rfl
  |some x=>cases x with
   |inl s'=>exact ih s'
   |inr r=>rfl
theorem Mi {σ ρ:Type}{K:σ->Option (Sum σ ρ)}{s:σ}(h: ∀n,iter K n s=none):Loop K s=none:=by unfold Loop;rw [dif_neg];rintro ⟨r,n,e⟩;rw [h] at e;cases e
theorem cD {σ σ' ρ ρ':Type}{K:σ->Option (Sum σ ρ)} {K':σ'->Option (Sum σ' ρ')}{d0:σ}{s0:σ'}(e:σ'->σ)(f:ρ'->ρ)(e0:d0=e s0)(h: ∀s,Sm (Sum.map e f) (K (e s)) (K' s)):Sm f (Loop K d0) (Loop K' s0):=by
 subst e0;unfold Sm;by_cases hx: ∃r n,iter K' n s0=some r
 ·obtain ⟨r,n,hn⟩:=hx;rw [kA hn];have:iter K n (e s0)=some (f r):=by rw [Qd h,hn];rfl
  rw [kA this];rfl
 ·have h1: ∀n,iter K' n s0=none:=λn=>by
   cases hn:iter K' n s0 with
   |none=>rfl
   |some r=>exact absurd ⟨r,n,hn⟩ hx
  rw [Mi h1,Mi λn=>by rw [Qd h,h1];rfl];rfl
theorem r8 {size bytes:Nat}{f:α->MV}(hw: ∀x,(f x).w=size)(l:List α):Sm (KO f) (gy size bytes [.list (l.map f)]) (kC bytes l):=by
 unfold Sm gy kC;simp only [xG (rfl:l.map f=l.map f) hw,afB,adg];by_cases h:l.length *bytes<=2^46
 ·rw [show IN (l.length *bytes) (2^46)=true from adn h,if_pos h];rfl
 ·rw [show IN (l.length *bytes) (2^46)=false from by rw [abZ];intro hb;exact h (AS hb),if_neg h];rfl
theorem Qe {f:α->MV}(xs:List α)(i j:Int):Sm (KO f) (qt [.fresh (xs.map f),.i .i64 i,.i .i64 j]) (AY xs i j):=by unfold Sm qt AY;simp only [adg];by_cases h1:0<=i<;>by_cases h2:i<=j<;>by_cases h3:j<=(xs.length:Int)<;>simp [h1,h2,h3,KO]
theorem Il {bytes:Nat}{f:α->MV}(xs:List α)(i:Int)(ys:List α):Sm (KO f) (kz bytes [.fresh (xs.map f),.i .i64 i,.fresh (ys.map f)]) (rZ bytes xs i ys):=by
 unfold Sm kz rZ;simp only [adg];have hb: ∀a b:Nat,IN a b=decide (a<=b):=λa b=>by
  by_cases h:a<=b
  ·rw [adn h,decide_eq_true h]
  ·rw [decide_eq_false h,abZ];intro hh;exact h (AS hh)
 rw [hb,hb];have he:(ys.map f).isEmpty=decide (ys=[]):=by cases ys<;>simp
 rw [he];by_cases h1:0<=i<;>by_cases h2:i.toNat<=xs.length<;>by_cases h3:ys=[]<;>by_cases h4:(xs.length+ys.length) *bytes<=2^46<;>simp [h1,h2,h3,h4,KO]
end
abbrev Sp (f:Option MV):List MV->Option MV|[]=>f|_=>none
abbrev sZ (f:MV->Option MV):List MV->Option MV|[a]=>f a|_=>none
abbrev eE (f:MV->MV->Option MV):List MV->Option MV|[a,b]=>f a b|_=>none
abbrev KP (f:MV->MV->MV->Option MV):List MV->Option MV|[a,b,c]=>f a b c|_=>none
abbrev adL (f:MV->MV->MV->MV->Option MV):List MV->Option MV|[a,b,c,d]=>f a b c d|_=>none
abbrev aho (f:MV->MV->MV->MV->MV->Option MV):List MV->Option MV|[a,b,c,d,e]=>f a b c d e|_=>none
theorem Dg {f:Option MV}{B:List MV->Option MV}(h:B []=f){ms:List MV}{r:MV}(e:Sp f ms=some r):B ms=some r:=by
 unfold Sp at e;split at e
 ·rw [h];exact e
 ·cases e
theorem fp {f:MV->Option MV}{B:List MV->Option MV}(h: ∀a,B [a]=f a){ms:List MV}{r:MV}(e:sZ f ms=some r):B ms=some r:=by
 unfold sZ at e;split at e
 ·rw [h];exact e
 ·cases e
theorem bo {f:MV->MV->Option MV}{B:List MV->Option MV}(h: ∀a b,B [a,b]=f a b){ms:List MV}{r:MV}(e:eE f ms=some r):B ms=some r:=by
 unfold eE at e;split at e
 ·rw [h];exact e
 ·cases e
theorem uW {f:MV->MV->MV->Option MV}{B:List MV->Option MV}(h: ∀a b c,B [a,b,c]=f a b c){ms:List MV}{r:MV}(e:KP f ms=some r):B ms=some r:=by
 unfold KP at e;split at e
 ·rw [h];exact e
 ·cases e
theorem Uu {f:MV->MV->MV->MV->Option MV}{B:List MV->Option MV}(h: ∀a b c d,B [a,b,c,d]=f a b c d){ms:List MV}{r:MV}(e:adL f ms=some r):B ms=some r:=by
 unfold adL at e;split at e
 ·rw [h];exact e
 ·cases e
theorem adM {f:MV->MV->MV->MV->MV->Option MV}{B:List MV->Option MV}(h: ∀a b c d i,B [a,b,c,d,i]=f a b c d i){ms:List MV}{r:MV}(e:aho f ms=some r):B ms=some r:=by
 unfold aho at e;split at e
 ·rw [h];exact e
 ·cases e
theorem jT.fn {P:Program} {c c':Ctx}{g:Nat->List MV->Option MV}{n:Nat}{fn:Func}{bV:List (List Kd)}{F:List MV->Option MV}(h:jT P c g)(hl:C9 c c')(hgg:c'.g=g)(lQ:ia P c.ti)(jK:RD P c.ti)(Nj: ∀t k,c.fk t=some k->P.underlying t=some (.float k))(TT:Ek P c)(PW:P.follows .mixedOrders=true)(NQ:xB P c)(hf:P.funcs[n]? =some fn)(hh:L5 c' n fn bV=true)(B6: ∀f,c.key f=f){fresh:Option Nat}(zo:HY c' n fn fresh=true)(hF: ∀{ms r},F ms=some r->Lp c' bV fresh fn ms=some r):jT P c (bp n F g):=by have hb:=jT.body h hl hgg lQ jK Nj TT PW NQ hf hh B6 zo;refine h.add (λf ms r hk hr=> ?_);refine hb.all f ms r ?_;unfold bp;rw [hk];simp [hF hr]
def aag {α:Type}(p:α->Option Bool):List α->Option (List α)
 |[]=>some []
 |x::xs=>bd (p x) λb=>bd (aag p xs) λys=>some (if b then ys else x::ys)
def Dh {α σ:Type}(p:α->σ->Option (Bool×σ)):σ->List α->Option (List α×σ)
 |s,[]=>some ([],s)
 |s,x::xs=>bd (p x s) λq=>bd (Dh p q.2 xs) λr=>some (if q.1 then r.1 else x::r.1,r.2)
theorem aah {l:List MV} {α:Type}{M:List α}{f:α->MV}(e:l=M.map f)(h: ∀x,Rr (f x)=true):l.all Rr=true:=by subst e;rw [List.all_map,abN];intro x _;exact h x
theorem aai {α σ:Type}{f:α->MV}{lv:σ->List MV}{g:Nat->List MV->Option MV}{k:Nat}{bV:List MV}{p:α->σ->Option (Bool×σ)}(h: ∀x s,Sm (λr=>MV.ef (.b r.1) (lv r.2)) (g k (f x::(bV++[.cell (.func 0 (lv s))]))) (p x s)): ∀(s:σ) (L:List α),Sm (λr=>(r.1.map f,lv r.2)) (nm (Ln g k bV) (lv s) (L.map f)) (Dh p s L)
 |s,[]=>rfl
 |s,x::xs=>by
  have hx:=h x s;unfold Sm at hx⊢;simp only [afA,nm,Ln,Dh,hx];cases p x s with
  |none=>rfl
  |some q=>
   have ih:=aai h q.2 xs;unfold Sm at ih;simp only [afm,ih];show _=Option.map _ (bd (Dh p q.2 xs) λr=>_);cases Dh p q.2 xs with
   |none=>rfl
   |some r=>obtain ⟨b,s'⟩:=q;cases b<;>rfl
end Dn
/-
  What functions of package strings yield: plain and typed. Conditions: none.
-/
namespace Dn
open Go
def eh (c:UInt8):List UInt8->List (List UInt8)
 |[]=>[[]]
 |x::l=>if x=c then []::eh c l else match eh c l with
  |p::r=>(x::p)::r
  |[]=>[[x]]
def Im:List MV->Option MV
 |[.s a,.s b]=>bif (IN 1 a.length&&IN a.length (2^46))&&(IN 2 b.length&&(IN b.length 1000&&b.all λx=>decide (x.toNat<128))) then some (.s (afP a b)) else none
 |_=>none
def s6:List MV->Option MV
 |[.s a,.i .i32 r]=>bif decide (0<=r/\r<128) then some (.b (decide (0<=afF a r.toNat.toUInt8))) else none
 |_=>none
def Ab:List MV->Option MV
 |[.s a,.s [c]]=>bif IN a.length 4294967280 then some (.fresh ((eh c a).map MV.s)) else none
 |_=>none
def Mj (a b:List UInt8):Option (List UInt8):=bif (IN 1 a.length&&IN a.length (2^46))&&(IN 2 b.length&&(IN b.length 1000&&b.all λx=>decide (x.toNat<128))) then some (afP a b) else none
def Di (a:List UInt8)(r:Int):Option Bool:=bif decide (0<=r/\r<128) then some (decide (0<=afF a r.toNat.toUInt8)) else none
def N8 (a s:List UInt8):Option (List (List UInt8)):=match s with
 |[c]=>bif IN a.length 4294967280 then some (eh c a) else none
 |_=>none
theorem ahp (a b:List UInt8):Sm MV.s (Im [.s a,.s b]) (Mj a b):=by unfold Sm Im Mj;dsimp only;cases (IN 1 a.length&&IN a.length (2^46))&&(IN 2 b.length&&(IN b.length 1000&&b.all λx=>decide (x.toNat<128)))<;>rfl
theorem V5 (a:List UInt8)(r:Int):Sm MV.b (s6 [.s a,.i .i32 r]) (Di a r):=by unfold Sm s6 Di;dsimp only;cases decide (0<=r/\r<128)<;>rfl
theorem adN (a s:List UInt8):Sm (KO MV.s) (Ab [.s a,.s s]) (N8 a s):=by
 unfold Sm N8;split
 ·rename_i c;unfold Ab;dsimp only;cases IN a.length 4294967280<;>rfl
 ·rename_i h;unfold Ab;split
  ·rename_i h2;simp only [List.cons.injEq,MV.s.injEq,and_true] at h2;exact absurd h2.2 (h _)
  ·rfl
end Dn
/-
  Functions of package strings as table entries, by the shelf's contracts. Conditions: none.
-/
namespace Dn
open Go
theorem V6 (c:UInt8): ∀l:List UInt8,Lib.splitK [c] 0 (Lib.count l [c]) l=eh c l:=by
 intro l;induction l with
 |nil=>rw [Lib.count_one];rfl
 |cons b l ih=>
  by_cases hb:b=c
  ·subst hb;have PN:abO (b::l) [b]=0:=by rw [abO];simp [List.isPrefixOf]
   rw [Lib.count_cons_eq,agb,Lib.splitK,PN];simp [eh,ih]
  ·rw [Lib.count_cons_ne b c l hb];have hp:([c]:List UInt8).isPrefixOf (b::l)=false:=by simp [List.isPrefixOf,Ne.symm hb]
   have PN:abO (b::l) [c]=if abO l [c]== -1 then-1 else abO l [c]+1:=by rw [abO,hp];simp
   simp only [eh,hb,if_false];rw [<-ih];cases hk:Lib.count l [c] with
   |zero=>rfl
   |succ k=>
    have cR:abO l [c]≠ -1:=by intro he;rw [Lib.count_miss he] at hk;cases hk
    have TA:=Lib.index_ge l [c];obtain ⟨j,hj⟩: ∃j:Nat,abO l [c]=j:=⟨(abO l [c]).toNat,by omega⟩
    have adO:(abO l [c]== -1)=false:=by simpa using cR
    rw [adO,if_neg (by decide)] at PN;have apg:(abO (b::l) [c]== -1)=false:=by rw [PN,hj];simp;omega
    rw [Lib.splitK,Lib.splitK,adO,apg,PN,hj];have e1:((j:Int)+1).toNat=j+1:=by omega
    simp [e1]
theorem V7 (c:UInt8)(s:ByteArray):(acU ⟨#[c]⟩ 0 (abK s ⟨#[c]⟩) s).map (·.data.toList)=eh c s.data.toList:=by rw [Lib.splitB_data];exact V6 c _
section
variable {P:Program} {ρ:Go.Shelf.Ren}{c:Ctx}
theorem Ey {f:FuncId}{args:Array Value}{w:World}{S:Ending->World->Prop}{R:Value->World->Prop}(he: ∀args w,(callFunc f args).run P w= .ok (.enter f args) w)(hc:Calls P f args w S)(h: ∀e w',S e w'-> ∃v,e= .returned v/\R v w'): dR P f args w R:=by unfold dR;rw [he];exact hc.mono h
theorem N9 {key:Nat->Nat} {φ:Ph}{v:Value}{l:List UInt8}(h:gY key φ [v] (.s l)): ∃b:ByteArray,v= .string b/\b.data.toList=l:=by generalize hv:[v]=vs at h;cases h;rename_i b;exact ⟨b,by simpa using hv,rfl⟩
theorem Uv {Z:Nat->Prop} {φ:Ph}{w:World}{k:Nat}{vs:List Value}{a b:List UInt8}(hg:c.dA k=false)(h:dS c Z φ w k vs [.s a,.s b]): ∃x y:ByteArray,vs=[.string x,.string y]/\x.data.toList=a/\y.data.toList=b:=by simp only [dS,hg,AI,if_false] at h;obtain ⟨v,u,rfl,⟨_,h1⟩,v2,u2,rfl,⟨_,h2⟩,rfl⟩:=h;obtain ⟨x,rfl,hx⟩:=N9 h1;obtain ⟨y,rfl,hy⟩:=N9 h2;exact ⟨x,y,rfl,hx,hy⟩
theorem adP {Z:Nat->Prop} {φ:Ph}{w:World}{k:Nat}{kd:IntKind}{vs:List Value}{a:List UInt8}{n:Int}(hg:c.dA k=false)(h:dS c Z φ w k vs [.s a,.i kd n]): ∃x:ByteArray,vs=[.string x,.int kd n]/\x.data.toList=a:=by simp only [dS,hg,AI,if_false] at h;obtain ⟨v,u,rfl,⟨_,h1⟩,v2,u2,rfl,⟨_,h2⟩,rfl⟩:=h;obtain ⟨x,rfl,hx⟩:=N9 h1;generalize hv:[v2]=vs at h2;cases h2;simp at hv;subst hv;exact ⟨x,rfl,hx⟩
theorem V8 (w:World)(q:Nat):Rest w (w.drewN q):=⟨rfl,rfl,rfl⟩
theorem aaj {φ:Ph}{w:World}(hi:oS φ w){b:Nat}(hb:w.heap.size<=b)(off:Nat):φ b off=none:=by
 cases hp:φ b off with
 |none=>rfl
 |some u=>have:=aaW w _ (hi _ _ _ hp);simp at this;omega
theorem adQ (L:agn P ρ)(akP:(P.info? (ρ.t 116)).map (λi=>(i.zero,i.size))=some (some (.agg (adf 256 (.bool false))),256))(hg:c.dA (c.key (ρ.f 160))=false){ms:List MV}{r:MV}(h:Im ms=some r): gh P c (ρ.f 160) ms r:=by
 unfold Im at h;split at h
 ·rename_i a b;cases hb:(IN 1 a.length&&IN a.length (2^46))&&(IN 2 b.length&&(IN b.length 1000&&b.all λx=>decide (x.toNat<128))) with
  |false=>rw [hb] at h;cases h
  |true=>
   rw [hb] at h;simp only [cond_true,bN] at h;subst h;simp only [abM] at hb;obtain ⟨⟨h1,h2⟩,h3,h4,h5⟩:=hb;have h1:=AS h1;have h2:=AS h2;have h3:=AS h3;have h4:=AS h4;intro φ w Z vs hz ha hi;obtain ⟨x,y,rfl,rfl,rfl⟩:=Uv hg ha;refine Ey (aco L.f160 (by kernel_rfl) rfl) (Go.Proofs.Any.strings_Trim_set L (Go.zero_of_info akP).1 (Go.zero_of_info akP).2 x y w (by rw [ab8];exact h3) (by rw [ab8];omega) (by rw [ab8];omega) (by rw [ab8];omega) (Go.Proofs.ascii_of_all h5)) ?_;rintro e w' ⟨rfl,q,rfl⟩;refine ⟨_,rfl,φ,?_,?_,?_⟩
   ·have g1:=db.alloc w (ab0 y.data.toList) (ρ.t 116);have g2:=db.alloc (w.alloc (.cells (ab0 y.data.toList) (ρ.t 116))) (ab0 y.data.toList) (ρ.t 116);have g:=g1.trans' g2;exact ⟨.refl φ,λb _ hl=>g.rK b hl,λ_ _ _=>rfl,g.size,g.rest.trans (V8 _ q)⟩
   ·intro b o v hv;have g1:=db.alloc w (ab0 y.data.toList) (ρ.t 116);have g2:=db.alloc (w.alloc (.cells (ab0 y.data.toList) (ρ.t 116))) (ab0 y.data.toList) (ρ.t 116);exact (g1.trans' g2).cell (hi b o v hv)
   ·exact ⟨rfl,by have:=gY.s (key:=c.key) (φ:=φ) (⟨(afP x.data.toList y.data.toList).toArray⟩:ByteArray);simpa using this⟩
 ·cases h
theorem Sq (L:ago P ρ)(hg:c.dA (c.key (ρ.f 151))=false){ms:List MV}{r:MV}(h:s6 ms=some r):gh P c (ρ.f 151) ms r:=by
 unfold s6 at h;split at h
 ·rename_i a n;cases hb:decide (0<=n/\n<128) with
  |false=>rw [hb] at h;cases h
  |true=>rw [hb] at h;simp only [cond_true,bN] at h;subst h;obtain ⟨h1,h2⟩:=of_decide_eq_true hb;intro φ w Z vs hz ha hi;obtain ⟨x,rfl,rfl⟩:=adP hg ha;refine Ey (aco L.f151 (by kernel_rfl) rfl) (adr L x n w h1 h2) ?_;rintro e w' ⟨rfl,rfl⟩;exact ⟨_,rfl,φ,.refl _ _ _,hi,rfl,.b _⟩
 ·cases h
open Go.Proofs Go.Shelf Go.RowKit in
theorem V9 (L:aem P ρ)(hi9:(P.info? (ρ.t 9)).map (λi=>(i.zero,i.size,i.bytes))=some (some (.string aci),1,16))(s:ByteArray)(b:UInt8)(w:World)(hs:s.size<4294967281): Calls P (ρ.f 146) #[.string s,.string ⟨#[b]⟩] w λe w'=>
  e= .returned (.slice (some ⟨w.heap.size,0,none⟩) (abK s ⟨#[b]⟩+1) (abK s ⟨#[b]⟩+1))/\w'=w.alloc (.cells ((acU ⟨#[b]⟩ 0 (abK s ⟨#[b]⟩) s).map acw).toArray (ρ.t 9)):=by
 have h1:1<=(⟨#[b]⟩:ByteArray).size:=OF _;have hle:=Lib.countB_le ⟨#[b]⟩ h1 s.size s (OF _);have hlen:=Lib.splitB_all ⟨#[b]⟩ h1 0 _ s rfl;have hC:Calls P (ρ.f 138) #[.string s,.string ⟨#[b]⟩] w λe w'=>e= .returned (.int .i64 (abK s ⟨#[b]⟩))/\w'=w:=by
  refine (Any.strings_Count_one {L with} s b w).mono λe w' ⟨he,hw⟩=>⟨?_,hw⟩
  rw [he];show _=Ending.returned (agp .i64 ((Lib.count s.data.toList [b]:Nat):Int));rw [Lib.count_one];rfl
 have c:=Any.strings_genSplit_core {L with} hi9 s ⟨#[b]⟩ 0 (-1) (abK s ⟨#[b]⟩+1) w hs h1 (abU _) (λx q hx=>(Any.strings_Index_one {L with} x b _).mono λe w' ⟨he,hw⟩=>⟨by rw [he];show _=Ending.returned (agp .i64 (abO x.data.toList [b]));rw [Lib.index_one],hw⟩) hC (by decide) (by decide) (by rw [if_pos (by decide)];omega);rw [Nat.add_sub_cancel,hlen] at c;have e2:Lib.cellsOf (acU ⟨#[b]⟩ 0 (abK s ⟨#[b]⟩) s) (abK s ⟨#[b]⟩+1)=((acU ⟨#[b]⟩ 0 (abK s ⟨#[b]⟩) s).map acw).toArray:=by rw [<-hlen];exact Lib.cellsOf_full _
 rw [e2] at c;clear hC hlen hle e2;have t3:=L.t3;have t9:=L.t9;have t31:=L.t31;have a3:=L.a3;have a9:=L.a9;have a31:=L.a31;have z3:=L.z3;have v3:=L.v3;have z9:=L.z9;have v9:=L.v9;have z31:=L.z31;have v31:=L.v31;have at5: ∀args w,(callFunc (ρ.f 221) args).run P w= .ok (.enter (ρ.f 221) args) w:=enters_of L.f221 (by kernel_rfl) rfl;go_enter L.f146,Body.n146_ntmps ρ;go_wp2_with (go_at_fn (ρ.f 221);refine c.mono ?_;rintro e w' ⟨rfl,hw⟩;rw [hw]);go_ret;exact ⟨rfl,rfl⟩
theorem Io {key:Nat->Nat} {φ:Ph}: ∀l:List ByteArray,aX key φ 1 (l.map acw) (l.map λb=>MV.s b.data.toList)
 |[]=>rfl
 |b::l=>⟨[.string b],_,rfl,rfl,.s b,Io l⟩
theorem aak {I:TI}(L:aem P ρ)(hi9:(P.info? (ρ.t 9)).map (λi=>(i.zero,i.size,i.bytes))=some (some (.string aci),1,16))(hg:c.dA (c.key (ρ.f 146))=false)(iJ:c.nU (c.key (ρ.f 146))=ρ.t 9)(hI:c.tv (ρ.t 9)=some I)(Lt:I.size=1){ms:List MV}{r:MV}(h:Ab ms=some r):gh P c (ρ.f 146) ms r:=by
 unfold Ab at h;split at h
 ·rename_i a b;cases hb:IN a.length 4294967280 with
  |false=>rw [hb] at h;cases h
  |true=>
   rw [hb] at h;simp only [cond_true,bN] at h;subst h;have hb:=AS hb;intro φ w Z vs hz ha hi;obtain ⟨x,y,rfl,rfl,hy⟩:=Uv hg ha;have hy':y=⟨#[b]⟩:=by
    cases y with
    |mk d=>congr 1;apply afj.1;exact hy
   subst hy';have hs:x.size<4294967281:=by rw [ab8];omega
   refine Ey (aco L.f146 (by kernel_rfl) rfl) (V9 L hi9 x b w hs) ?_;rintro e w' ⟨rfl,rfl⟩;have h1:1<=(⟨#[b]⟩:ByteArray).size:=OF _;have hle:=Lib.countB_le ⟨#[b]⟩ h1 x.size x (OF _);have hlen:=Lib.splitB_all ⟨#[b]⟩ h1 0 _ x rfl;have jK:=V7 b x;have g1:=db.alloc w ((acU ⟨#[b]⟩ 0 (abK x ⟨#[b]⟩) x).map acw).toArray (ρ.t 9);obtain ⟨lQ,hc⟩:=bj hI;refine ⟨_,rfl,φ,g1.trans (Z:=bC.plain Z) hz φ,λb' o v hv=>g1.cell (hi b' o v hv),?_⟩;show cu _ _ _ _ _ ⟨c.nU (c.key (ρ.f 146)),false,_⟩;rw [iJ];generalize hpc:acU ⟨#[b]⟩ 0 (abK x ⟨#[b]⟩) x=pcs at *;rw [<-jK,agc];refine ⟨I,pcs.map acw,lQ,hc,?_,by rw [Lt];exact Io pcs,?_⟩
   ·rw [Lt];refine ⟨by simp,.inr ⟨w.heap.size,abK x ⟨#[b]⟩+1,_,by simp [hlen],abU _,iy w _,by simp [hlen],by unfold Go.maxLen;rw [ab8] at hle;omega,by simp [hlen],?_⟩⟩;simp [List.take_of_length_le]
   ·intro a8 jI;simp [abW] at jI;subst jI;exact ⟨hz _ (OF _),λoff u hu=>(by have hu:φ w.heap.size off=some u:=hu;rw [aaj hi (OF _)] at hu;cases hu),λhc=>False.elim hc⟩
 ·cases h
end
end Dn
/-
  Going through a map, in whatever order; a label at the end of a scope. Conditions: none.
-/
namespace Dn
open Go
structure Rng where
 i1:Nat
 o1:Array Oper
 a1:Oper
 b1:Oper
 x:Operand
 d1:Nat
 t:Nat
 d2:Nat
 k:Nat
 i2:Nat
 o2:Array Oper
 a2:Oper
 r2:List Oper
 cx:Operand
 kx:Nat
 k5:Nat
 i3:Nat
 o3:Array Oper
 a3:Oper
 r3:List Oper
 rest:Code
def Rng.body (q:Rng):Code:= .seq (.region q.i2 q.o2 false) (.seq (.cond q.cx .skip (.exit q.kx)) (.block q.k5 (.seq (.region q.i3 q.o3 false) q.rest)))
def Rng.code (q:Rng):Code:= .seq (.region q.i1 q.o1 false) (.block q.k (.loop q.body))
def isNone {α:Type}:Option α->Bool
 |none=>true
 |some _=>false
section
variable {P:Program}{c:Ctx}{Z Zb Zi:bC} {e e' e3:Env}{st bY oP B:St} {a a':Act} {w w':World}{R:Type}{r:R}{Q:Exit->Act->World->Prop}{o:Oper}{hn:qI}
end
end Dn
/-
  Going through a map, in whatever order: it does what is said. Conditions: none.
-/
namespace Dn
open Go
section
variable {P:Program}{c:Ctx}{Z Zb Zi:bC} {e e' e3:Env}{st bY oP B:St} {a a':Act} {w w':World}{R:Type}{r:R}{Q:Exit->Act->World->Prop}{o:Oper}{hn:qI}
def bC.wd (Z:bC)(g:Nat):bC:={Z with In:=λb=>Z.In b\/b=g}
theorem Sr {g:Nat}{m:Option Nat}{s:Nat}{seen:Array Nat}{k:Nat}(h:bS c Z e st a w)(hg:w.heap[g]? =some (.mapIter m s seen k)): (∀t cs,aq st.fr t= .box cs->e.B t≠g)/\(∀f o,aI st.aP f=some o->(e.E f).ownBlock≠some g):=by
 refine ⟨λt cs ht he=> ?_,λf o ho he=> ?_⟩
 ·have hs:=h.slot t;rw [ht] at hs;obtain ⟨ob,h1,h2⟩:=hs.2.obj;rw [he,hg] at h1;cases h1;exact h2.elim
 ·obtain ⟨I,cells,_,_,h3,_⟩:=(h.iK f o ho).row;rcases h3.2 with ⟨h1,_⟩|⟨g',cap,cY,h1,_,h2,_⟩
  ·rw [h1] at he;cases he
  ·rw [h1] at he;simp only [abW,bN] at he;subst he;rw [hg] at h2;cases h2
theorem wm.wide {g:Nat}{m:Option Nat}{s:Nat}{seen:Array Nat}{k:Nat}(j:wm c Zb Zi e B hn a w)(hz:Zb.In g)(hg:w.heap[g]? =some (.mapIter m s seen k)):wm c Zb (Zi.wd g) e B hn a w:=by obtain ⟨h1,h2⟩:=Sr j.sU hg;exact ⟨j.sU,λb hb=>hb.elim (j.sub b) (λhe=>by rw [he];exact hz),λb hb=> .inl (j.new b hb),j.cA,j.T,j.keys,λt cs ht hz=>hz.elim (j.box t cs ht) (h1 t cs ht),λf o b ho hb hz=>hz.elim (j.iK f o b ho hb) (λhe=>h2 f o ho (by rw [hb,he])),j.agI,j.acK,j.ptr,j.men⟩
end
end Dn
/-
  A function's body in which a map is gone through, or a label stands. Conditions: none.
-/
namespace Dn
open Go
section
variable {P:Program}{c:Ctx}{R:Type}{r:R}
end
theorem adR {A B:Type}{g:B->A}{p q:Prop}[Decidable p][Decidable q]{X:Option A} {X':Option B}(e:p↔q)(h1:Sm g X X'):Sm g (cJ (decide p) X) (if q then X' else none):=by
 by_cases hp:p
 ·rw [if_pos (e.1 hp),decide_eq_true hp];exact h1
 ·rw [if_neg (λh=>hp (e.2 h)),decide_eq_false hp];rfl
theorem ahq {A B:Type}{g:B->A}{T:Option B}{x:List MV}{K:List MV->Option A}(h:Sm g (K x) T):Sm g (gCl (.clip x) K) T:=h
@[reducible] def akQ {α : Type}(f : α -> MV)(l : List α) : MV := .clip (l.map f)
end Dn
/-
  Reasoning about functions on typed values. Conditions: none.
-/
namespace Dn
open Go
section
variable {α R:Type}
theorem b7 {l:List α}{k:Nat}(h:k<l.length)(K:α->Option R):ix l (k:Int) K=K l[k]:=by simp [ix,h]
theorem EQ {l:List α}{i:Int}(h0:0<=i)(h:i.toNat<l.length)(K:α->Option R):ix l i K=K l[i.toNat]:=by simp [ix,h,h0]
theorem UK {l:List α}(h:0<l.length)(K:α->Option R):ix l 0 K=K l[0]:=by simp [ix,h]
@[simp] theorem Qy {A : Type}(x : Option A) : bd x (λa => some a) = x := by cases x <;> rfl
end
def bG {A:Type}(x:Option A)(Q:A->Prop):Prop:= ∃a,x=some a/\Q a
section
variable {A B α σ ρ:Type}
theorem bG.mk {a:A}{Q:A->Prop}(h:Q a):bG (some a) Q:=⟨a,rfl,h⟩
theorem bG.of {x:Option A}{a:A}{Q:A->Prop}(e:x=some a)(h:Q a):bG x Q:=⟨a,e,h⟩
theorem bG.bd {x:Option A}{K:A->Option B}{P:A->Prop}{Q:B->Prop}(h:bG x P)(hk: ∀a,P a->bG (K a) Q):bG (bd x K) Q:=by obtain ⟨a,rfl,hp⟩:=h;exact hk a hp
theorem bG.imp {x:Option A}{P Q:A->Prop}(h:bG x P)(RY: ∀a,P a->Q a):bG x Q:=by obtain ⟨a,e,hp⟩:=h;exact ⟨a,e,RY a hp⟩
theorem bG.ix {l:List α}{k:Nat}{K:α->Option A}{Q:A->Prop}(h:k<l.length)(hk:bG (K l[k]) Q):bG (ix l (k:Int) K) Q:=by rw [b7 h];exact hk
theorem bG.eq {x:Option A}{a:A}(h:bG x (· =a)):x=some a:=by obtain ⟨b,e,rfl⟩:=h;exact e
variable {body:σ->Option (Sum σ ρ)}
theorem bG.loop (I:σ->Prop) (μ:σ->Nat){Q:ρ->Prop}{s:σ}(hs:I s)(h: ∀s,I s->bG (body s) λx=>match x with| .inl s'=>I s'/\μ s'<μ s| .inr r=>Q r):bG (Loop body s) Q:=by
 refine aac I μ Q (λs hs=> ?_) hs;obtain ⟨x,e,hx⟩:=h s hs;cases x with
 |inl s'=>exact .inl ⟨s',e,hx⟩
 |inr r=>exact .inr ⟨r,e,hx⟩
theorem bG.count (S:Nat->σ)(n:Nat){Q:ρ->Prop}(P:Nat->Prop){s:σ}(e:s=S 0)(h0:P 0)(h: ∀k,k<n->P k->bG (body (S k)) λx=>match x with| .inl s'=>s'=S (k+1)/\P (k+1)| .inr r=>Q r)(he:P n->bG (body (S n)) λx=>match x with| .inl _=>False| .inr r=>Q r):bG (Loop body s) Q:=by
 subst e;refine aad S n Q P h0 (λk hk hp=> ?_) (λhp=> ?_)
 ·obtain ⟨x,e,hx⟩:=h k hk hp;cases x with
  |inl s'=>obtain ⟨rfl,hx⟩:=hx;exact .inl ⟨e,hx⟩
  |inr r=>exact .inr ⟨r,e,hx⟩
 ·obtain ⟨x,e,hx⟩:=he hp;cases x with
  |inl s'=>exact hx.elim
  |inr r=>exact ⟨r,e,hx⟩
end
theorem wrap64 {x:Int}(h1: -9223372036854775808<=x)(h2:x<=9223372036854775807):AT .i64 x=x:=adI h1 h2
end Dn
/-
  Functions of the library, on typed values. Conditions: none.
-/
namespace Dn
open Go
def On (x y:Int):Int:=if x<y then-1 else if y<x then 1 else 0
def qF {α:Type}(key:α->Int)(L:List α)(s:Int):Nat:=L.countP (λe=>decide (key e<s))
def kY {α:Type}(key:α->Int)(L:List α)(s:Int):Bool:=L.any λe=>decide (key e=s)
def rF {α:Type}(key:α->Int)(L:List α):Prop:=L.Pairwise λa b=>key a<key b
section
variable {α τ:Type}{key:α->Int}
theorem ahR {L:List α}{s:Int}{p:Nat}(hp:p<=L.length)(h1: ∀k (hk:k<L.length),k<p->key L[k]<s)(h2: ∀k (hk:k<L.length),p<=k->s<=key L[k]):qF key L s=p:=by
 have h3:(L.take p).countP (λe=>decide (key e<s))=(L.take p).length:=by
  rw [List.countP_eq_length];intro a ha;obtain ⟨k,hk,rfl⟩:=ach.1 ha;have ON:k<p:=by rw [aaG] at hk;omega
  rw [List.getElem_take];exact decide_eq_true (h1 k (by omega) ON)
 have h4:(L.drop p).countP (λe=>decide (key e<s))=0:=by rw [List.countP_eq_zero];intro a ha;obtain ⟨k,hk,rfl⟩:=ach.1 ha;rw [ac9] at hk;rw [List.getElem_drop];have:=h2 (p+k) (by omega) (by omega);simp;omega
 have h5:qF key L s=(L.take p++L.drop p).countP (λe=>decide (key e<s)):=by rw [List.take_append_drop];rfl
 rw [h5,List.countP_append,h3,h4,aaG];omega
theorem rF.lt {L:List α}(hs:rF key L){i j:Nat}(hj:j<L.length)(h:i<j):key (L[i]'(by omega))<key L[j]:=List.pairwise_iff_getElem.1 hs i j (by omega) hj h
theorem rF.le {L:List α}(hs:rF key L){i j:Nat}(hj:j<L.length)(h:i<=j):key (L[i]'(by omega))<=key L[j]:=by
 rcases Nat.lt_or_eq_of_le h with h|h
 ·exact Int.le_of_lt (hs.lt hj h)
 ·subst h;exact Int.le_refl _
theorem SM (L:List α)(s:Int):qF key L s<=L.length:=List.countP_le_length
theorem rF.lb {L:List α}(hs:rF key L)(s:Int):(∀k (hk:k<L.length),k<qF key L s->key L[k]<s)/\(∀k (hk:k<L.length),qF key L s<=k->s<=key L[k]):=by
 have: ∃p,p<=L.length/\(∀k (hk:k<L.length),k<p->key L[k]<s)/\(∀k (hk:k<L.length),p<=k->s<=key L[k]):=by
  induction L with
  |nil=>exact ⟨0,OF _,λk hk=>by simp at hk,λk hk=>by simp at hk⟩
  |cons a l ih=>
   have yu:=List.pairwise_cons.1 hs;by_cases ha:key a<s
   ·obtain ⟨p,h1,h2,h3⟩:=ih yu.2;refine ⟨p+1,by simp;omega,λk hk hkp=> ?_,λk hk hkp=> ?_⟩
    ·cases k with
     |zero=>exact ha
     |succ k=>exact h2 k (by simpa using hk) (by omega)
    ·cases k with
     |zero=>omega
     |succ k=>exact h3 k (by simpa using hk) (by omega)
   ·refine ⟨0,abU _,λk hk hkp=>by omega,λk hk _=> ?_⟩;cases k with
    |zero=>simp;omega
    |succ k=>have:=yu.1 (l[k]'(by simpa using hk)) (ab2 _);simp only [List.getElem_cons_succ];omega
 obtain ⟨p,h1,h2,h3⟩:=this;rw [ahR h1 h2 h3];exact ⟨h2,h3⟩
theorem rF.has {L:List α}(hs:rF key L)(s:Int):kY key L s=true↔ ∃h:qF key L s<L.length,key L[qF key L s]=s:=by
 obtain ⟨h1,h2⟩:=hs.lb s;unfold kY;rw [afe];constructor
 ·rintro ⟨x,hx,he⟩;obtain ⟨k,hk,rfl⟩:=ach.1 hx;have he:key L[k]=s:=by simpa using he
  have TA:qF key L s<=k:=by refine Nat.le_of_not_lt λcI=> ?_;have:=h1 k hk cI;omega
  have hl:qF key L s<L.length:=by omega
  refine ⟨hl,?_⟩;have:=h2 _ hl (OF _);have:=hs.le hk TA;omega
 ·rintro ⟨h,he⟩;exact ⟨_,ab2 h,decide_eq_true he⟩
theorem DN {L:List α}{s:Int}:kY key L s=true↔ ∃x∈L,key x=s:=by simp [kY]
noncomputable def bsL (x:List α)(target:τ)(cmp:α->τ->Option Int)(st:Int×Int):Option ((Int×Int)⊕Int):=if st.1<st.2 then
 if (0:Int)<=1 then
 ix x (AT .i64 (afx (AT .u64 (AT .i64 (st.1+st.2))) (2^min (aec 1) (abY .u64)))) λy=>
 bd (cmp y target) λrA=>
 bd (if rA<0 then
  some (AT .i64 ((AT .i64 (afx (AT .u64 (AT .i64 (st.1+st.2))) (2^min (aec 1) (abY .u64))))+1),st.2)
  else
  some (st.1,AT .i64 (afx (AT .u64 (AT .i64 (st.1+st.2))) (2^min (aec 1) (abY .u64)))):Option (Int×Int)) λw1=>
 some (.inl (w1.1,w1.2))
 else none
 else
 some (.inr st.1)
noncomputable def bsearch (x:List α)(target:τ)(cmp:α->τ->Option Int):Option (Int×Bool):=bd (Loop (bsL x target cmp) (0,(x.length:Int))) λw=>
 bd (if w<(x.length:Int) then
  ix x w λy1=>
  bd (cmp y1 target) λaY=>
  some (w,decide (aY=0))
  else
  some (w,false):Option (Int×Bool)) λw2=>
 some (w2.1,w2.2)
theorem JL {L:List α}{s:Int}{cmp:α->Int->Option Int}(hs:rF key L)(hl:L.length<2^60)(hc: ∀a,cmp a s=some (On (key a) s)):bsearch L s cmp=some ((qF key L s:Int),kY key L s):=by
 obtain ⟨sw,rM⟩:=hs.lb s;have hle:=SM (key:=key) L s;have ke:Loop (bsL L s cmp) (0,(L.length:Int))=some (qF key L s:Int):=by
  refine bG.eq (bG.loop (λst=> ∃i j:Nat,st=((i:Int),(j:Int))/\i<=qF key L s/\qF key L s<=j/\j<=L.length) (λst=>(st.2-st.1).toNat) ⟨0,L.length,rfl,abU _,hle,OF _⟩ ?_);rintro st ⟨i,j,rfl,hi,hj,Kl⟩;unfold bsL;by_cases cI:i<j
  ·have hm:(i+j)/2<L.length:=by omega
   simp only [show ((i:Int)<(j:Int)) by omega,if_true,show ((0:Int)<=1) by decide,aab (by omega:i+j<2^62),b7 hm,hc,az];by_cases hlb:(i+j)/2<qF key L s
   ·have hk:=sw _ hm hlb;have:On (key L[(i+j)/2]) s= -1:=by simp [On,hk]
    simp only [this,show ((-1:Int)<0) by decide,if_true,az];rw [wrap64 (by omega) (by omega)];exact .mk ⟨⟨(i+j)/2+1,j,by simp,by omega,hj,Kl⟩,by omega⟩
   ·have hk:=rM _ hm (by omega);have: ¬On (key L[(i+j)/2]) s<0:=by unfold On;rw [if_neg (by omega)];split<;>omega
    simp only [this,if_false,az];exact .mk ⟨⟨i,(i+j)/2,rfl,hi,by omega,by omega⟩,by omega⟩
  ·simp only [show¬((i:Int)<(j:Int)) by omega,if_false];exact .mk (by show (i:Int)=(qF key L s:Int);omega)
 unfold bsearch;rw [ke];simp only [az];by_cases cI:qF key L s<L.length
 ·simp only [show ((qF key L s:Int)<(L.length:Int)) by omega,if_true,b7 cI,hc,az];have h3:=rM _ cI (OF _);have:decide (On (key L[qF key L s]) s=0)=kY key L s:=by
   unfold On;rw [if_neg (by omega)];by_cases he:key L[qF key L s]=s
   ·rw [if_neg (by omega),decide_eq_true rfl,(hs.has s).2 ⟨cI,he⟩]
   ·rw [if_pos (by omega),decide_eq_false (by decide)];symm;rw [abZ];intro hh;obtain ⟨_,hh⟩:=(hs.has s).1 hh;exact he hh
  rw [this]
 ·simp only [show¬((qF key L s:Int)<(L.length:Int)) by omega,if_false,az];have:kY key L s=false:=by rw [abZ];intro hh;obtain ⟨hh,_⟩:=(hs.has s).1 hh;exact cI hh
  rw [this]
def GC (key:α->Int)(L:List α)(a:α):List α:=L.take (qF key L (key a))++[a]++L.drop (qF key L (key a))
theorem JM {L:List α}{a:α} {by':Nat}(hb:(L.length+1) *by'<=2^46):rZ by' L (qF key L (key a):Int) [a]=some (GC key L a):=by
 unfold rZ;rw [if_pos]
 ·rfl
 ·exact ⟨by omega,by simpa using SM L _,by simp,by simpa using hb⟩
theorem A8 {L:List α} {by':Nat}(h:L.length *by'<=2^46):kC by' L=some L:=if_pos h
end
section
variable {α ρ:Type}
theorem take_succ {L:List α}{k:Nat}(hk:k<L.length):L.take (k+1)=L.take k++[L[k]]:=(List.take_append_getElem hk).symm
theorem aaX {body:Int->Option (Int⊕(Unit⊕ρ))}(n:Nat)(p:Nat->Prop)(c:ρ)(h: ∀k,k<n->(∀j,j<k->p j)->(p k->body (k:Int)=some (.inl ((k+1:Nat):Int)))/\(¬p k->body (k:Int)=some (.inr (.inr c))))(he:body (n:Int)=some (.inr (.inl ()))):bG (Loop body 0) λr=>(r= .inl ()/\ ∀k,k<n->p k)\/(r= .inr c/\ ∃k,k<n/\ ¬p k):=by
 refine bG.count (λk=>(k:Int)) n (λk=> ∀j,j<k->p j) rfl (λj hj=>by omega) (λk hk hp=> ?_) (λhp=> ?_)
 ·by_cases hpk:p k
  ·refine .of ((h k hk hp).1 hpk) ⟨rfl,λj hj=> ?_⟩;by_cases hjk:j=k
   ·subst hjk;exact hpk
   ·exact hp j (by omega)
  ·exact .of ((h k hk hp).2 hpk) (.inr ⟨rfl,k,hk,hpk⟩)
 ·exact .of he (.inl ⟨rfl,hp⟩)
theorem ER [DecidableEq α]{a b:List α}{body:Int->Option (Int⊕(Unit⊕Bool))}(hl:a.length=b.length)(h: ∀k (ha:k<a.length)(hb:k<b.length),body (k:Int)=some (if a[k]=b[k] then .inl ((k+1:Nat):Int) else .inr (.inr false)))(he:body (a.length:Int)=some (.inr (.inl ()))):Loop body 0=some (if a=b then .inl () else .inr false):=by
 obtain ⟨r,e,hr⟩:=aaX (body:=body) a.length (λk=>a[k]? =b[k]?) false (λk hk _=>by
  have hkb:k<b.length:=by omega
  rw [abL hk,abL hkb,h k hk hkb];constructor
  ·intro hh;rw [if_pos (by simpa using hh)]
  ·intro hh;rw [if_neg (by simpa using hh)]) he
 rw [e];rcases hr with ⟨rfl,sR⟩|⟨rfl,k,hk,cR⟩
 ·rw [if_pos];refine ae7 λk=> ?_;by_cases hk:k<a.length
  ·exact sR k hk
  ·rw [adv (by omega),adv (by omega)]
 ·rw [if_neg];intro hab;subst hab;exact cR rfl
end
end Dn
/-
  Runs with a bound on their rounds. Conditions: none.
-/
namespace Dn
open Go
def amf {σ R:Type}(n:Nat)(body:σ->Option (Sum σ R))(s:σ):Option R:=iter body n s
def Le {A:Type}(x y:Option A):Prop:= ∀a,x=some a->y=some a
section
variable {A B σ ρ α:Type}
theorem Le.rfl' (x:Option A):Le x x:=λ_ h=>h
theorem Le.bd {x x':Option A} {K K':A->Option B}(h:Le x x')(hk: ∀a,Le (K a) (K' a)):Le (bd x K) (bd x' K'):=by
 intro b hb;cases hx:x with
 |none=>rw [hx] at hb;cases hb
 |some a=>rw [hx] at hb;rw [h a hx];exact hk a b hb
theorem Le.ix {l:List α}{i:Int} {K K':α->Option A}(h: ∀a,Le (K a) (K' a)):Le (ix l i K) (ix l i K'):=by
 unfold Dn.ix;split
 ·exact h _
 ·exact Le.rfl' _
theorem Le.iter {K K':σ->Option (Sum σ ρ)}(h: ∀s,Le (K s) (K' s))(n:Nat)(s:σ):Le (iter K n s) (iter K' n s):=by
 induction n generalizing s with
 |zero=>exact Le.rfl' _
 |succ n ih=>
  intro r hr;simp only [Dn.iter] at hr⊢;cases hk:K s with
  |none=>rw [hk] at hr;cases hr
  |some x=>
   rw [hk] at hr;rw [h s x hk];cases x with
   |inl s'=>exact ih s' r hr
   |inr r'=>exact hr
theorem Le.loop {n:Nat} {K K':σ->Option (Sum σ ρ)}{s:σ}(h: ∀s,Le (K s) (K' s)):Le (amf n K s) (Loop K' s):=λr hr=>kA (Le.iter h n s r hr)
theorem Le.sum {P Q:Type}{x:P⊕Q} {f f':P->Option A} {g g':Q->Option A}(h1: ∀p,Le (f p) (f' p))(h2: ∀q,Le (g q) (g' q)):Le (match x with| .inl p=>f p| .inr q=>g q) (match x with| .inl p=>f' p| .inr q=>g' q):=by
 cases x
 ·exact h1 _
 ·exact h2 _
end
theorem Le.Ot {α:Type}{p q:α->Option Bool}(h: ∀x,Le (p x) (q x)): ∀L:List α,Le (aag p L) (aag q L)
 |[]=>Le.rfl' _
 |x::xs=>Le.bd (h x) λb=>Le.bd (Le.Ot h xs) λ_=>Le.rfl' _
end Dn
/-
  Maps as lists of entries: what is there behind a store. Conditions: none.
-/
namespace Dn
open Go
end Dn
/-
  A state in which variables of packages have given data. Conditions: none.
-/
namespace Dn
open Go
def cellsD:Nat->DataW Unit->List Value
 |n+1,.agg ds=>ds.flatMap (cellsD n)
 |_,.lit (.int k v)=>[.int k v]
 |_,_=>[]
def Xt (cs:Array Value):Obj->Obj
 | .cells _ t z=> .cells cs t z
 |o=>o
def Kk (P:Program):List (String×DataW Unit)->Array Obj->Array Obj
 |[],h=>h
 |x::r,h=>match P.globalNamed x.1 with
  |some g=>Kk P r (h.modify g (Xt (cellsD 4 x.2).toArray))
  |none=>Kk P r h
noncomputable def amr (P:Program)(l:List (String×DataW Unit))(os:Os)(args:Array Value):World:={World.holding P os ⟨#[],args,[]⟩ with heap:=Kk P l (World.holding P os ⟨#[],args,[]⟩).heap}
theorem Q1 {a b:Bool}(h1:a=true)(h2:b=true):(a&&b)=true:=by rw [h1,h2];rfl
def Bw:List Char:=[99,117,116].map afy
theorem ams:(Bw== "gc".toList)=false:=by kernel_rfl
theorem aeS:(Bw== "spec".toList)=false:=by kernel_rfl
theorem ah5:(Bw== "cut".toList)=true:=by kernel_rfl
theorem Tk:(Bw== "carried".toList)=false:=by kernel_rfl
section
variable {P:Program}{L:List (List Char)}{ns:List Nat}
theorem M2 (h:P.initOrder=String.ofList (ns.map afy)):P.initOrder.toList=ns.map afy:=by rw [h,String.toList_ofList]
theorem aeT {h s:List Char}(e:wordsSigns P.initOrder.toList=h::s::L)(h1:isSumSigns s=true)(h2:(h== "harness".toList)=true):P.mainIs=some (true,s):=by unfold Program.mainIs;rw [e];simp only [h1,h2,afz,AI,if_false,if_true]
theorem aeU (e:behindMainWord (wordsSigns P.initOrder.toList)=Bw::L):P.make=some .cut:=by unfold Program.make;rw [e];simp only [ams,aeS,ah5,Bool.or_false,AI,if_false,Bool.true_or,if_true]
theorem ah6 (e:behindMainWord (wordsSigns P.initOrder.toList)=Bw::L)(h1:(stripLifts liftWords (Bw::L)).1=[])(h2:((stripLifts liftWords (Bw::L)).2.head? ==some "cut".toList)=true)
 (h3:P.doorFits []=true) (h4:P.laysLater=false) (h5:P.bearsReflect=false):P.mayEnter=true:=by
 unfold Program.mayEnter;rw [e];simp only [h1,h2,h3,h4,h5,List.contains_nil,aeW,adX,afB,Bool.and_true,Bool.or_true]
theorem abI (e:behindMainWord (wordsSigns P.initOrder.toList)=Bw::L)(h1:(stripLifts liftWords (Bw::L)).1=[]):P.liftsFinal=false:=by
 unfold Program.liftsFinal Program.headLifts;rw [e]
 have h0:((Bw::L).head? ==some "carried".toList)=false:=by simp only [List.head?_cons];have:=Tk;simpa using this
 simp only [h0,h1,Bool.false_and,aeW];split<;>rfl
theorem aeV {c:OpenClaim}(h:P.make=some .cut)(hc:c.make= .cut):(P.make==some c.make)=true:=by rw [h,hc];rfl
theorem abJ {c:OpenClaim}(h:P.liftsFinal=false)(hc:c.lifted=false):(c.lifted==P.liftsFinal)=true:=by rw [h,hc];rfl
end
end Dn
