import Derived.Test.YtoppfdchohkgaaaGreatDoorDnB
import Derived.Laws.CopyRow
import Derived.Lib.AppendZerosOnto
import Derived.Lib.Overlaps
import Derived.Laws.Externs
import Derived.Control
import Derived.LaidLaws
import Derived.Deep.DeepLaidRun
import Derived.Handed
import Derived.JoinedOf
import Derived.KernelRfl
import Derived.Maps.RangeRun
import Derived.ScopeJumps
import Derived.Lib.SlTrimSet
import Derived.Lib.Bytealg
import Derived.Shelf.Strings.Split
import Derived.Shelf.Strings.SlTrimAscii
import Derived.Shelf.Strings.Runes
import Derived.Lib.IndexBytes
/- What Go functions come to, on plain values. Conditions: none. -/
open Bool renaming and_eq_true→bo,false_eq_true→AS,not_eq_true'→aea,eq_false_iff→aic,true_and→aiT,or_eq_false_iff→ajC,not_true→akp,false_or→akq,and_true→ak5,or_eq_true→alu
open Go.Region renaming ready→sh,wanted→BY,binds→afa,noSelect→ahK
open Array renaming replicate→AI,length_toList→ad2,getElem?_append→ad4,toList_inj→aeU,getD_eq_getD_getElem?→ae3,getElem?_toList→ahp,setIfInBounds_comm→aii,getElem?_replicate→aiR,toList_map→ai2
open Nat renaming eq_of_beq_eq_true→AT,le_of_ble_eq_true→IT,le_refl→ad1,ble→ad6,mul_le_mul_right→ad7,beq→ad9,zero_le→aef,le_trans→aez,add_mul→ae9,succ_mul→afj,min_eq_left→afK,zero_add→agt,sub_mul→aia,add_comm→aja,ble_eq_true_of_le→ajo,lt_of_lt_of_le→alb
open List renaming length_take→IN,all_eq_true→OF,length_append→ab3,length_drop→ad8,take_of_length_le→aed,mem_cons→aee,take_append_of_le_length→aeh,getElem?_append_right→aer,getElem?_drop→aev,getElem?_eq_getElem→aeP,getElem?_take→ae1,append_assoc→ae8,any_eq_true→afh,getElem?_eq_some_iff→afn,getElem?_take_of_lt→afo,nil_append→afu,mem_append→afw,range→afR,ext_getElem?→aga,size_toArray→agv,flatMap_cons→ahn,cons_append→ahq,eq_nil_of_length_eq_zero→ahF,mem_iff_getElem→ahG,nodup_cons→ahI,map_append→ahJ,drop_drop→ahU,map_cons→ain,length_cons→aiU,getElem_mem→ai3,drop_of_length_le→ajd,take_append_drop→ajt,take_take→ajW,mem_map→alk,nodup_append→alm,take_add_one→aln,take_append→alp,take_length→alr,append_nil→alw,length_map→alx,range_add→alz,take_left→alA,map_map→alH
open Go.World renaming block_lt_of_cell?→No,cell?_of_block→aeg,setRow→aeF
open Go.IntKind renaming wrap→aa0,bits→ahl,wrap_i64→ahr
open Go.Region.linearise renaming go→adZ
open Option.some renaming injEq→ad0,inj→alv
open Go.Builtin renaming zeroCells→ad3,copy_→aen,append_→aey,clear_→ahe,firstCells→alj
open Go.Act renaming put_comm→ad5
open Go.Value renaming ownBlock→aeb,bool→aec,pointer→ahA,string→ahS,cells→ajA,slice→alJ,int→alN
open Go.Addr renaming add_mid→aei
open Go.Deferred renaming ofValue→aeo
open Go.Lib renaming countB→aex,index→aeY,setCells→aho,splitB→ah7,size_eq→aih,indexByte→alE,trimS→alF
open Go.Oper renaming upon_value→afA,wp→ahP,wp_mono→ahQ,upon→ahT
open Go renaming sizeOf→afS
open Go.Instr renaming sliceBounds→agc,sliceBound→ahs,sliceAt→aiS,slice→ajM,checkKey→ajZ,sameNow→akr,loadAt→alo,indexAt→alD
open Prod.mk renaming injEq→ahw
open Go.Proofs renaming enters_of→ahO
open Go.Code renaming wp_mono→ahR,region→als
open List.cons renaming injEq→ajh
open Go.Proofs.Any renaming strings_ContainsRune_ascii→aju
open Int renaming toNat→akd,fdiv→alC
open Go.ByteArray renaming toList_eq→akn
open Go.Proofs.Lays renaming n146→ako,n160→alK,n151→alL
open Go.Extern.SlicesOverlaps renaming overlaps→alq
open ByteArray renaming empty→aly
open Char renaming ofNat→alB
open Go.Sem renaming run_bind→alI,run→alM
set_option linter.all false
namespace Dn
open Go
noncomputable section
section
variable {P:Program}{c:Ctx}{ops:Array Oper}{N:Act->World->Prop}
def oq (N:Act->World->Prop):Exit->Act->World->Prop
 | .normal,a,w=>N a w
 |_,_,_=>False
def pK (c:Ctx)(oi:Oper)(ops:Array Oper)(i:Nat):Bool:=match ops[i]? with|some o=>Oz c o||uO oi o|none=>true
def zi (P:Program)(c:Ctx)(ops:Array Oper)(N:Act->World->Prop) (φ:Ph):Nat->Array Bool->Act->World->Prop
 |0,listed,a,w=>sh .any ops listed=[]/\N a w
 |fuel+1,listed,a,w=>(sh .any ops listed=[]->N a w)/\ ∀i∈sh .any ops listed,wpOp P ops (oq N) i (λa' w'=>((∀oi,pK c oi ops i=true->dP c oi w w')/\ni φ w')/\zi P c ops N φ fuel (listed.setIfInBounds i true) a' w') a w
def X0 {φ φ':Ph}(hp:gx φ φ'): ∀(fuel:Nat) (listed:Array Bool) (a:Act) (w:World),zi P c ops N φ' fuel listed a w->zi P c ops N φ fuel listed a w:=by
 intro fuel;induction fuel with
 |zero=>intro listed a w h;exact h
 |succ fuel ih=>intro listed a w h;exact ⟨h.1,λi hi=>wpOp_mono (λa w h=>⟨⟨h.1.1,λb o v hv=>h.1.2 b o v (hp b o v hv)⟩,ih _ _ _ h.2⟩) (h.2 i hi)⟩
def Rq {φ:Ph}: ∀(fuel:Nat) (listed:Array Bool) (a:Act) (w:World),zi P c ops N φ fuel listed a w->wpAny P .any ops (oq N) fuel listed a w:=by
 intro fuel;induction fuel with
 |zero=>intro listed a w h;exact h
 |succ fuel ih=>intro listed a w h;exact ⟨h.1,λi hi=>wpOp_mono (by grind) (h.2 i hi)⟩
theorem TZ {oi oj p:Oper} {w w':World}(h1:uO oi p=true)(h2:uO oj p=true)(h:dP c oi w w'):dP c oj w w':=by grind [uO,AT,dP,TQ]
def ajH {j:Nat}{oi oj:Oper}{v:Value}(hj:ops[j]? =some oj)(wo:oi.apart ops oj=true)(hsi: ∀cs b,oi.op≠ .select cs b)(hsj: ∀cs b,oj.op≠ .select cs b){K:Act->World->Prop}{a:Act}{w:World}(h:wpOp P ops (oq N) j K (a.put oi.dst v) w): wpOp P ops (oq N) j (λa' w'=>(execOp a'.eval oi=execOp a.eval oi/\BY oi (yielded ops a'.tmps)=BY oi (yielded ops a.tmps))/\K (a'.put oi.dst v) w') a w:=by
 have ⟨h1,h2,h3⟩:=Oper.apart_spec wo;have keep: ∀(a:Act) (u:Value),execOp (a.put oj.dst u).eval oi=execOp a.eval oi/\BY oi (yielded ops (a.put oj.dst u).tmps)=BY oi (yielded ops a.tmps):=λa u=>⟨execOp_put oi hsi a oj.dst u h3,wanted_put oi a oj.dst u h3⟩
 unfold wpOp at *;simp only [hj] at *;rw [wanted_put oj a oi.dst v h1] at h;split
 .rename_i hw;simp only [hw,if_true] at h;rcases h with h|⟨anh,abK⟩;case inr=>have ⟨_,_,hf⟩:=abK;exact hf.elim
  refine .inl ?_;unfold ahP at *;rw [execOp_put oj hsj a oi.dst v h1] at h;generalize (execOp a.eval oj).run P w=r at *;cases r with
  |ok n w'=>
   cases n<;>simp only [ahT] at h⊢;case value u=>grind [ad5]
   case skip=>grind [ad5,undef]
   case defer d=>refine ⟨keep _ _,?_⟩;grind [ad5,undef,Act.put_defers]
   case enter f args=>
    refine Calls.mono h λx Fo he=> ?_;cases x with
    |returned u=>grind [ad5]
    |panicked c=>exact he
    |outgrown=>exact he
   grind [Rows.mono,ad5]
  |halt x w'=>cases x<;>simp only [ahT] at h⊢;case panic u=>exact h
 grind [ad5,undef]
def V1 (P:Program)(c:Ctx)(ops:Array Oper) (φ:Ph)(o:Oper)(v:Value)(a:Act)(w:World):Prop:=(BY o (yielded ops a.tmps)=true/\ ∀w',(jq c o=true->(still c o=false->dP c o w w')/\ni φ w')->(execOp a.eval o).run P w'= .ok (.value v) w')\/ (BY o (yielded ops a.tmps)=false/\v=undef)
theorem xG {φ:Ph}{i:Nat}{oi:Oper}{v:Value}{D:List Nat}(hD: ∀j oj,j∈D->j≠i->ops[j]? =some oj-> ∃e∈oj.after,afa .any e=true/\e.on∈D)(hi:ops[i]? =some oi)(O9: ∀(j:Nat)(o:Oper) cs b,ops[j]? =some o->o.op≠ .select cs b): ∀(fuel:Nat) (listed:Array Bool) (a:Act) (w:World),(∀j oj,ops[j]? =some oj->j∉D->j≠i->listed.getD j true=false->oi.apart ops oj=true/\(jq c oi=true->still c oi=false->pK c oi ops j=true))->(∀d∈D,listed.getD d false=false)-> i∈sh .any ops listed->V1 P c ops φ oi v a w->ni φ w-> zi P c ops N φ fuel (listed.setIfInBounds i true) (a.put oi.dst v) w->zi P c ops N φ (fuel+1) listed a w:=by
 have self: ∀(fuel:Nat) (listed:Array Bool) (a:Act) (w:World),V1 P c ops φ oi v a w->ni φ w->zi P c ops N φ fuel (listed.setIfInBounds i true) (a.put oi.dst v) w-> wpOp P ops (oq N) i (λa' w'=>((∀oi,pK c oi ops i=true->dP c oi w w')/\ni φ w')/\zi P c ops N φ fuel (listed.setIfInBounds i true) a' w') a w:=by
  intro fuel listed a w hy hm H;unfold wpOp;simp only [hi];rcases hy with ⟨hw,hv⟩|⟨hw,rfl⟩
  .simp only [hw,if_true,ahP,hv w (λ_=>⟨λ_=>(cq.refl w).for,hm⟩),ahT];exact .inl ⟨⟨λ_ _=>(cq.refl w).for,hm⟩,H⟩
  .simp only [hw,AS,if_false];exact ⟨⟨λ_ _=>(cq.refl w).for,hm⟩,H⟩
 intro fuel;induction fuel with
 |zero=>
  intro listed a w _ _ hr hy hm H;refine ⟨(by grind),λj hj=> ?_⟩;by_cases hji:j=i
  .grind
  .have:=ready_mono hj hji;rw [H.1] at this;cases this
 |succ fuel ih=>
  intro listed a w pv JL hr hy hm H;refine ⟨(by grind),λj hj=> ?_⟩;by_cases hji:j=i
  .grind
  .have h1:=H.2 j (ready_mono hj hji);have ⟨T0,oj,hoj,rV⟩:=mem_ready.1 hj;have hjD:j∉D:=by intro hjd;obtain ⟨e,he,hb,sB⟩:=hD j oj hjd hji hoj;have h1:=rV e he hb;rw [JL e.on sB] at h1;cases h1
   have ⟨wo,XB⟩:=pv j oj hoj hjD hji T0;have h2:=ajH hoj wo (λcs b=>O9 i oi cs b hi) (λcs b=>O9 j oj cs b hoj) h1;have anj: ∀d∈D,(listed.setIfInBounds j true).getD d false=false:=by intro d hd;rw [getD_set_ne false (by grind)];exact JL d hd
   have ajI: ∀k ok,ops[k]? =some ok->k∉D->k≠i->(listed.setIfInBounds j true).getD k true=false->oi.apart ops ok=true/\(jq c oi=true->still c oi=false->pK c oi ops k=true):=λk ok hk hkD hki hun=>by
    refine pv k ok hk hkD hki ?_;by_cases hjk:j=k
    .grind
    .rw [getD_set_ne true hjk] at hun;exact hun
   refine wpOp_mono (λa' w' h3=>⟨h3.2.1,ih (listed.setIfInBounds j true) a' w' ajI anj (ready_mono hr (Ne.symm hji)) ?_ h3.2.1.2 ?_⟩) h2
   .have ⟨⟨he,hwn⟩,⟨hg,_⟩,_⟩:=h3;rcases hy with ⟨hw,hv⟩|⟨hw,rfl⟩
    .refine .inl ⟨by grind,λFo hg2=> ?_⟩;rw [he];exact hv Fo (λhl=>⟨λhs=>(hg oi (XB hl hs)).trans ((hg2 hl).1 hs),(hg2 hl).2⟩)
    .exact .inr (by grind)
   grind [aii]
variable {Z:bn}{R:Type}{K:St->Option R}{r:R}
def X1 (op:Op):Ti op=op.operands.toList:=by
 cases op<;>first|rfl|simp [Ti,Op.operands,Call.operands]
 grind
def abL (l:List Operand):Qz l=l.filterMap λ| .tmp t=>some t|_=>none:=by
 induction l with
 |nil=>rfl
 |cons x l ih=>grind [Qz]
def NG (o:Oper):Oy ops.toList o=o.looksAt ops:=by unfold Oy Oper.looksAt;rw [X1,abL];grind
theorem Be {x y:Oper}(h:I4 ops.toList x y=true):x.apart ops y=true:=by
 unfold I4 at h;unfold Oper.apart;rw [NG,NG] at h;have hn: ∀(l:List Nat) (d:Nat),bB l d=l.contains d:=by intro l d;have:=bm l d;cases h1:bB l d<;>cases h2:l.contains d<;>simp_all
 cases hx:x.dst<;>cases hy:y.dst<;>simp_all [bne,eQ]
def wC (e:Edge):I5 e=afa .any e:=by unfold I5 afa;grind
structure ZQ (ops:Array Oper) (listed:Array Bool) (pre:List Nat):Prop where
 size:listed.size=ops.size
 mem: ∀i,i<ops.size->(listed.getD i true=true↔i∈pre)
def ZQ.set {listed:Array Bool}{pre:List Nat}{x:Nat}(h:ZQ ops listed pre)(hx:x<ops.size):ZQ ops (listed.setIfInBounds x true) (x::pre):=by
 refine ⟨by grind [h.size],λi hi=> ?_⟩;by_cases ZR:x=i
 .simp_all
 .rw [getD_set_ne true ZR,h.mem i hi];grind
def ZQ.ot {listed:Array Bool}{pre:List Nat}{i:Nat}(h:ZQ ops listed pre)(hi:i<ops.size):listed.getD i true=false↔i∉pre:=by rw [<-h.mem i hi];grind
theorem ZQ.done {listed:Array Bool}{pre:List Nat}{i:Nat}(h:ZQ ops listed pre)(hi:i<ops.size):listed.getD i false=true↔i∈pre:=by
 rw [<-h.mem i hi];have hl:i<listed.size:=by rw [h.size];exact hi
 simp [hl]
theorem lG: ∀(rest pre:List Nat),qA c ops.toList pre rest=true-> ∀z∈rest,z∉pre:=by
 intro rest;induction rest with
 |nil=>grind
 |cons y rest ihr=>
  intro pre hd z hz;simp only [qA] at hd;cases hy:ops.toList[y]? with
  |none=>grind
  |some oy=>grind [bm]
def vT {o:Oper}{x:Nat}: ∀(rest D0:List Nat),qz c ops.toList o D0 rest=true->(∀y,y∈D0->y≠x-> ∃p,ops[y]? =some p/\ ∃e∈p.after,afa .any e=true/\e.on∈D0)-> ∃D:List Nat,(∀y∈D0,y∈D)/\(∀y∈D,y∈D0\/y∈rest)/\(∀j oj,j∈D->j≠x->ops[j]? =some oj-> ∃e∈oj.after,afa .any e=true/\e.on∈D)/\ (∀y∈rest,y∉D-> ∃p,ops[y]? =some p/\o.apart ops p=true/\(jq c o=true->still c o=false->(Oz c p||uO o p)=true)):=by
 intro rest;induction rest with
 |nil=>intro D0 _ h0;refine ⟨D0,λy hy=>hy,λy hy=> .inl hy,λj oj hj dt ho=> ?_,λy hy=>by cases hy⟩;grind
 |cons y rest ih=>
  intro D0 h h0;simp only [qz] at h;cases hy:ops.toList[y]? with
  |none=>grind
  |some p=>
   simp only [hy] at h;cases he:Fl p (bB D0) with
   |true=>
    simp only [he,cond_true] at h;have ⟨D,D1,D2,D3,D4⟩:=ih (y::D0) h (by
     intro z hz dt;rcases aee.1 hz with rfl|hz
     .have ⟨ed,hed,hb⟩:=afh.1 he;simp only [bo,wC] at hb;grind [bm]
     grind)
    refine ⟨D,(by grind),λz hz=> ?_,D3,λz hz hzD=> ?_⟩;all_goals grind
   |false=>simp only [he,cond_false,bo,alu,aea] at h;have ⟨⟨h1,h2⟩,h3⟩:=h;have ⟨D,D1,D2,D3,D4⟩:=ih D0 h3 h0;refine ⟨D,D1,(by grind),D3,λz hz hzD=> ?_⟩;grind [Be]
def bn.outs (Z:bn)(bs:List Nat):bn:={Z with In:=λb=>Z.In b/\b∉bs,Pr:=λb=>Z.Pr b/\b∉bs}
def bC.Aa {Z Z':bn}{e:Env}{st:St}{a:Act}{w:World}(h:bC c Z e st a w)(hI: ∀b,Z.In b->Z'.In b)(hP: ∀b,Z.Pr b->Z'.Pr b)(h1:Z'.ca=Z.ca)(h2:Z'.ch=Z.ch)(h3:Z'.T=Z.T)(h4:Z'.cov=Z.cov):bC c Z' e st a w:=by
 refine ⟨by grind [h.defers],h.size,h.m,h.key,h.nodup,λt=> ?_,h.root,λf o ho=> ?_,h.bb,h.bf,h.ff,h.jU,λb hb=>hI b (h.bI b hb)⟩
 .have hs:=h.slot t;generalize ap st.fr t=s at hs;cases s<;>simp only [dy] at hs⊢ <;>first|exact hs|skip
  exact ⟨⟨hs.1.1,λhp=>by rw [h1,h3];exact hs.1.2 hp⟩,⟨by rcases hs.2.bI with ⟨x,y⟩|x;exact .inl (by grind);exact .inr (hI _ x),hs.2.obj,hs.2.free⟩⟩
 .have ⟨I,cells,g1,g2,g3,g4,g5⟩:=(h.fJ f o ho).row;refine ⟨I,cells,g1,g2,g3,g4,λaQ hb=> ?_⟩;have ⟨k1,k2,k3⟩:=g5 aQ hb;refine ⟨?_,k2,λhc hz j hj=>k3 (by have hc:f∈Z'.ch:=hc;rw [h2] at hc;exact hc) hz j hj⟩;rcases k1 with ⟨x,y⟩|x
  .exact .inl (by grind)
  .exact .inr (hI _ x)
def bC.narrow {e:Env}{st:St}{a:Act} {w w':World}{bs:List Nat}(h:bC c (Z.outs bs) e st a w)(g:cq w w')(hs:w.heap.size<w'.heap.size):bC c (Z.outs (w.heap.size::bs)) e st a w':=by
 have h':=h.grow g;have zY: ∀b,b<w.heap.size->(Z.outs bs).In b->(Z.outs (w.heap.size::bs)).In b:=λb hb hi=>⟨hi.1,by simp;exact ⟨aah,hi.2⟩⟩
 have OO: ∀b,b<w.heap.size->(Z.outs bs).Pr b->(Z.outs (w.heap.size::bs)).Pr b:=λb hb hi=>⟨hi.1,by simp;exact ⟨aah,hi.2⟩⟩
 refine ⟨h'.defers,h'.size,h'.m,h'.key,h'.nodup,λt=> ?_,h'.root,λf o ho=> ?_,h'.bb,h'.bf,h'.ff,h'.jU,λb hb=> ?_⟩
 .have hs:=h.slot t;have zf:=h'.slot t;generalize ap st.fr t=s at hs zf;cases s<;>simp only [dy] at hs zf⊢ <;>first|exact zf|skip
  have ⟨o2,k1,_⟩:=hs.2.obj;have hl:=a8 k1;exact ⟨zf.1,⟨by rcases zf.2.bI with ⟨x,y⟩|x;exact .inl ⟨x,OO _ hl y⟩;exact .inr (zY _ hl x),zf.2.obj,zf.2.free⟩⟩
 .have ⟨I,cells,g1,g2,g3,g4,g5⟩:=(h'.fJ f o ho).row;refine ⟨I,cells,g1,g2,g3,g4,λaQ hb=> ?_⟩;have ⟨k1,k2,k3⟩:=g5 aQ hb;refine ⟨?_,k2,k3⟩;have hl:aQ<w.heap.size:=by
   obtain ⟨I',aje,l1,l2,l3,l4,l5⟩:=(h.fJ f o ho).row;rcases l3.2 with ⟨hv,_⟩|⟨gg,cap,cD,hv,_,hg,_⟩
   .grind [aeb]
   .grind [aeb,ad0,a8]
  rcases k1 with ⟨x,y⟩|x
  .exact .inl ⟨x,OO _ hl y⟩
  .exact .inr (zY _ hl x)
 .refine ⟨(h.bI b aah).1,?_⟩;simp;exact ⟨aah,(h.bI b aah).2⟩
def vOf (b:Nat):Value:= .pointer (some ⟨b,0,none⟩)
def wD (ops:Array Oper)(i:Nat):Option Nat:=match ops[i]? with
 |some o=>o.dst
 |none=>none
def vU (ops:Array Oper):List (Nat×Nat)->Act->Act
 |[],a=>a
 |p::r,a=>(vU ops r a).put (wD ops p.1) (vOf p.2)
structure afb (c:Ctx) (Z:bn) (ops:Array Oper) (e:Env) (w:World) (p:Nat×Nat):Prop where
 row: ∃o t I d arr T,ops[p.1]? =some o/\HD o=true/\o.op= .alloc t/\c.tv t=some I/\o.dst=some d/\w.heap[p.2]? =some (.cells arr T (0,0))/\ ∀e':Env,ar e' arr.toList I.zero
 free: ∀off,e.φ p.2 off=none
 bI:Z.In p.2
def Bf {o:Oper}(h:HD o=true): ∃t d,o.op= .alloc t/\o.dst=some d/\o.guard=none/\ ∀e∈o.after,afa .any e=false:=by
 unfold HD at h;split at h
 .rename_i t d h1 h2 h3;refine ⟨t,d,h1,h2,h3,λe he=> ?_⟩;have:=OF.1 h e (by simpa using he);simpa [wC] using this
 .cases h
def CP {t:TypeId}{I:TI}(hI:c.tv t=some I)(hT:fw P c.ti): ∃i z,P.info? t=some i/\i.zero=some z/\ ∀e:Env,ar e z.cells.toList I.zero:=by
 have ⟨lC,hc⟩:=aM hI;have ⟨d,i,h1,h2,h3,h4⟩:=hT t I lC;suffices hz: ∃z,i.zero=some z/\ ∀e:Env,ar e z.cells.toList I.zero by grind
 cases d<;>simp only [qD] at h4;case struct fs=>grind [ajA,lD]
 case tuple ts=>grind
 case slice el=>have ⟨_,_,_,_,_,hz,hl,_⟩:=h4;exact ⟨_,hz,λe=>by rw [hl];exact ⟨[.slice none 0 0],[],rfl,rfl,rfl⟩⟩
 case array n el=>have ⟨_,_,_,_,k,m,_,_,_,hl,hz⟩:=h4;exact ⟨_,hz,λe=>by rw [hl];exact ⟨bE k (zA m),[],by simp [ajA],⟨rfl,aaS⟩,rfl⟩⟩
 case bool=>have ⟨_,_,_,_,hl,hz⟩:=h4;exact ⟨_,hz,λe=>by rw [hl];exact ⟨[.bool false],[],rfl,⟨rfl,.b _⟩,rfl⟩⟩
 case int k=>have ⟨_,_,_,_,hl,hz⟩:=h4;exact ⟨_,hz,λe=>by rw [hl];exact ⟨[.int k 0],[],rfl,⟨rfl,.i _ _⟩,rfl⟩⟩
 case string=>have ⟨_,_,_,_,hl,b,hz,hb⟩:=h4;refine ⟨_,hz,λe=>by rw [hl];refine ⟨[.string b],[],rfl,⟨rfl,?_⟩,rfl⟩;rw [<-hb];exact .s b⟩
 all_goals
  have ⟨_,_,_,_,v,hz,hv,hl⟩:=h4;have:v.cells.toList=[v]:=by cases v<;>simp_all [ajA,Value.oneCell']
  grind [lD]
def Hd {o:Oper}(hs: ∀cs b,o.op≠ .select cs b)(a:Act): ∀(pd:List (Nat×Nat)),(∀p∈pd,∀d,wD ops p.1=some d->d∉o.looksAt ops)-> execOp (vU ops pd a).eval o=execOp a.eval o/\BY o (yielded ops (vU ops pd a).tmps)=BY o (yielded ops a.tmps)
 |[],_=>⟨rfl,rfl⟩
 |p::r,h=>by have ⟨h1,h2⟩:=Hd hs a r (by grind);have hp:=h p aaS;exact ⟨(execOp_put o hs _ _ _ hp).trans h1,(wanted_put o _ _ _ hp).trans h2⟩
def Ef (a:Act)(y:Option Nat)(v:Value): ∀(pd:List (Nat×Nat)),(∀p∈pd,∀d,wD ops p.1=some d->y≠some d)->(vU ops pd a).put y v=vU ops pd (a.put y v)
 |[],_=>rfl
 |p::r,h=>by simp only [vU];rw [ad5 _ _ _ (by grind),Ef a y v r (by grind)]
def afc {j:Nat}{oj:Oper}{x:Option Nat}{v:Value}(hj:ops[j]? =some oj)(h1: ∀d,x=some d->d∉oj.looksAt ops)(h2: ∀d,x=some d->oj.dst≠some d)(hsj: ∀cs b,oj.op≠ .select cs b){K:Act->World->Prop}{a:Act}{w:World}(h:wpOp P ops (oq N) j K a w): wpOp P ops (oq N) j (λa' w'=> ∃a'',a'=a''.put x v/\K a'' w') (a.put x v) w:=by
 unfold wpOp at *;simp only [hj] at *;rw [wanted_put oj a x v h1];split
 .rename_i hw;simp only [hw,if_true] at h;rcases h with h|⟨anh,abK⟩;case inr=>have ⟨_,_,hf⟩:=abK;exact hf.elim
  refine .inl ?_;unfold ahP at *;rw [execOp_put oj hsj a x v h1];generalize (execOp a.eval oj).run P w=r at *;cases r with
  |ok n w'=>
   cases n<;>simp only [ahT] at h⊢;case value u=>grind [ad5]
   case skip=>grind [ad5,undef]
   case defer d=>refine ⟨{a.put oj.dst undef with defers:=d::(a.put oj.dst undef).defers},?_,by grind [Act.put_defers]⟩;have:=ad5 a v undef h2;cases x<;>cases hd:oj.dst<;>simp_all [Act.put]
   case enter f args=>
    refine Calls.mono h λy Fo he=> ?_;cases y with
    |returned u=>grind [ad5]
    |panicked c=>exact he
    |outgrown=>exact he
   grind [Rows.mono,ad5]
  |halt y w'=>cases y<;>simp only [ahT] at h⊢;case panic u=>exact h
 grind [ad5,undef]
def V2 {j:Nat}{oj:Oper}(hj:ops[j]? =some oj)(hsj: ∀cs b,oj.op≠ .select cs b){K:Act->World->Prop}{a:Act}{w:World}(h:wpOp P ops (oq N) j K a w): ∀(pd:List (Nat×Nat)),(∀p∈pd,∀d,wD ops p.1=some d->d∉oj.looksAt ops/\oj.dst≠some d)->wpOp P ops (oq N) j (λa' w'=> ∃a'',a'=vU ops pd a''/\K a'' w') (vU ops pd a) w
 |[],_=>wpOp_mono (λa' w' hk=>⟨a',rfl,hk⟩) h
 |p::r,hp=>by have h1:=V2 hj hsj h r (λq hq=>hp q (by simp [hq]));have h2:=afc (v:=vOf p.2) hj (λd hd=>(hp p aaS d hd).1) (λd hd=>(hp p aaS d hd).2) hsj h1;refine wpOp_mono ?_ h2;rintro a' w' ⟨a1,rfl,a2,rfl,hk⟩;exact ⟨a2,rfl,hk⟩
def NH: ∀{l m:List Nat},l.Nodup->(∀x∈l,x∈m)->l.length<=m.length
 |[],m,_,_=>aef _
 |x::l,m,hn,hs=>by have hn:=ahI.1 hn;have h1:l.length<=(m.erase x).length:=NH hn.2 (by grind);grind
def Rr {x b:Nat}{o:Oper}(hdo:wD ops x=o.dst)(a:Act)(pr:List (Nat×Nat)): ∀(pl:List (Nat×Nat)),(∀p∈pl++pr,∀dd,wD ops p.1=some dd->o.dst≠some dd)->vU ops (pl++(x,b)::pr) a=vU ops (pl++pr) (a.put o.dst (vOf b))
 |[],h=>by simp only [afu,vU,hdo];exact Ef a o.dst (vOf b) pr (by grind)
 |q::pl,h=>by simp only [ahq,vU];rw [Rr hdo a pr pl (by grind)]
def ZQ.congr {listed:Array Bool} {l l':List Nat}(h:ZQ ops listed l)(he: ∀i,i∈l↔i∈l'):ZQ ops listed l':=⟨h.size,λi hi=>by rw [h.mem i hi,he]⟩
def Rs {o:Oper}: ∀(rest D:List Nat),qz c ops.toList o D rest=true-> ∀y∈rest,∀p,ops[y]? =some p->HD p=true->o.apart ops p=true:=by
 intro rest;induction rest with
 |nil=>grind
 |cons z rest ih=>
  intro D h y hy p hp Iq;simp only [qz] at h;cases hz:ops.toList[z]? with
  |none=>grind
  |some q=>
   simp only [hz] at h;cases he:Fl q (bB D) with
   |true=>
    rcases aee.1 hy with rfl|hy
    .have ⟨_,_,_,_,_,dt⟩:=Bf Iq;simp_all [Fl,afh,bo,wC,absurd]
    grind
   |false=>grind [Be]
def JM {o p:Oper}{y:Nat}(hp:ops[y]? =some p)(h:p.apart ops o=true\/o.apart ops p=true): ∀d,wD ops y=some d->d∉o.looksAt ops/\o.dst≠some d:=by
 intro d hd;have hd:p.dst=some d:=by simpa [wD,hp] using hd
 grind [Oper.apart_spec]
def afb.later {Z:bn}{bs:List Nat} {e e':Env} {w w':World}{p:Nat×Nat}(h:afb c Z ops e w p)(hb:p.2∈bs)(t:Trans (Z.outs bs).In e.φ w e'.φ w'):afb c Z ops e' w' p:=by have ⟨o,ty,I,d,arr,T,h1,h2,h3,h4,h5,h6,h7⟩:=h.row;have hn: ¬(Z.outs bs).In p.2:=λhh=>hh.2 hb;exact ⟨⟨o,ty,I,d,arr,T,h1,h2,h3,h4,h5,by rw [t.heap _ hn (a8 h6)];exact h6,h7⟩,λoff=>by rw [t.free _ off hn];exact h.free off,h.bI⟩
def Trans.wide {Z Z':Nat->Prop} {φ φ':Ph} {w w':World}(t:Trans Z φ w φ' w')(h: ∀b,Z b->Z' b):Trans Z' φ w φ' w':=⟨t.ph,λb hb hl=>t.heap b (λhz=>hb (h b hz)) hl,λb o hb=>t.free b o (λhz=>hb (h b hz)),t.size,t.rest⟩
theorem afd (hG:Good P c)(O9: ∀(j:Nat)(o:Oper) cs b,ops[j]? =some o->o.op≠ .select cs b) {φ0:Ph}{w0:World}(hN: ∀a' w',Out c Z K r φ0 w0 a' w'->N a' w'): ∀(m:Nat) (rest pre:List Nat) (pd:List (Nat×Nat)) (l:List Oper) (listed:Array Bool) (e:Env) (st:St) (a:Act) (w:World),2 *rest.length-pd.length<=m->bC c (Z.outs (pd.map (·.2))) e st a w->DN c ops.toList l st K=some r->Trans Z.In φ0 w0 e.φ w->qn ops.toList rest=some l-> qA c ops.toList pre rest=true->ZQ ops listed (pd.map (·.1)++pre)->(∀i,i<ops.size->i∈pre\/i∈rest)->(∀i∈pre,i<ops.size)->(∀p∈pd,p.1∈rest)->(pd.map (·.1)).Nodup->(pd.map (·.2)).Nodup->(∀p∈pd,afb c Z ops e w p)-> pd.length<=rest.length->zi P c ops N e.φ (rest.length-pd.length) listed (vU ops pd a) w:=by
 intro m;induction m with
 |zero=>
  intro rest pre pd l listed e st a w hm h hK ht hp hd hL rV ajJ OO Nd Ik hpe hle;cases rest with
  |cons x rest=>grind
  |nil=>
   cases pd with
   |cons p pd=>simp at hle
   |nil=>
    cases hp;have h':bC c Z e st a w:=h.Aa (λb hb=>hb.1) (λb hb=>hb.1) rfl rfl rfl rfl;refine ⟨?_,hN a w ⟨e,st,h',ht,hK⟩⟩;cases hr:sh .any ops listed with
    |nil=>rfl
    |cons i is=>
     have hi:i∈sh .any ops listed:=by rw [hr];simp
     have ⟨h1,o,ho,_⟩:=mem_ready.1 hi;have dh:i<ops.size:=(by grind)
     exact absurd (by grind) ((hL.ot dh).1 h1)
 |succ m ihm=>
  intro rest pre pd l listed e st a w hm h hK ht hp hd hL rV ajJ OO Nd Ik hpe hle;cases rest with
  |nil=>grind
  |cons x rest=>
   simp only [qn] at hp;cases hox:ops.toList[x]? with
   |none=>grind
   |some o=>
    cases hpk:qn ops.toList rest with
    |none=>grind
    |some l'=>
     simp only [hox,hpk,ad0] at hp;subst hp;have hx:ops[x]? =some o:=by simpa using hox
     have T3:x<ops.size:=(by grind)
     have hd0:=hd;simp only [qA,hox] at hd;simp only [bo,aea] at hd;obtain ⟨⟨⟨⟨d1,d2⟩,d3⟩,d4⟩,d5⟩:=hd;have JN:x∉pre:=by rw [<-bm,d2];simp
     have JO:x∉rest:=by rw [<-bm,d3];simp
     have V3: ∀i,i<ops.size->i∈x::pre\/i∈rest:=by
      intro i hi;rcases rV i hi with h1|h1
      .grind
      .grind
     have ahL: ∀i∈x::pre,i<ops.size:=by
      intro i hi;rcases aee.1 hi with rfl|hi
      .exact T3
      .grind
     have ajK:=hK;simp only [DN] at hK;have afe: ∀p∈pd,∃q,ops[p.1]? =some q/\HD q=true:=λp hp=>by have ⟨q,_,_,_,_,_,h1,h2,_⟩:=(hpe p hp).row;grind
     unfold aal at hK;obtain ⟨bG,go,h',hK,hw⟩:=Q8 h hK;have ahM: ∀cs b,o.op≠ .select cs b:=(by grind)
     by_cases hxp:x∈pd.map (·.1)
     .
      obtain ⟨⟨x',b⟩,hpx,hxe⟩:=alk.1 hxp;have hxe:x'=x:=hxe;subst hxe;obtain ⟨o',t,I,d,arr,T,k1,k2,k3,k4,k5,k6,k7⟩:=(hpe _ hpx).row;rw [hx] at k1;cases k1;obtain ⟨_,_,_,_,hgn,dt⟩:=Bf k2;have hgo:go=true:=by rw [<-hw];simp [BY,hgn]
      subst hgo;have ZS:(fK o&&!eY c o)=false:=by simp [fK,k3]
      simp only [ZS,cond_false] at d4;obtain ⟨pl,pr,rfl⟩:=List.append_of_mem hpx;have hbn:b∉(pl++pr).map (·.2):=by have:((pl++(x',b)::pr).map (·.2)).Nodup:=Ik;simp only [ahJ,ain,alm,ahI,aee] at this;simp only [ahJ,afw,not_or];exact (by grind)
      have hxn:x'∉(pl++pr).map (·.1):=by have:((pl++(x',b)::pr).map (·.1)).Nodup:=Nd;simp only [ahJ,ain,alm,ahI,aee] at this;simp only [ahJ,afw,not_or];exact (by grind)
      have abM: ∀p∈pl++pr,p∈pl++(x',b)::pr:=(by grind)
      have lm:bC c (Z.outs ((pl++pr).map (·.2))) e bG a w:=by
       refine h'.Aa (λu hu=>⟨hu.1,λhm=>hu.2 ?_⟩) (λu hu=>⟨hu.1,λhm=>hu.2 ?_⟩) rfl rfl rfl rfl<;>
       .grind
      have ann:b∈(pl++(x',b)::pr).map (·.2):=aaS
      have ja:rn (Z.outs ((pl++pr).map (·.2))) e w bG (vOf b) (.box I.zero):=by
       refine ⟨b,by rw [sN (k7 e).zS];rfl,⟨⟨(hpe _ hpx).bI,hbn⟩,⟨_,k6,rfl,k7 e⟩,(hpe _ hpx).free⟩,λt' gl QH QF=> ?_,λf o' CH QF=> ?_⟩
       .have hs:=h'.slot t';rw [QH] at hs;rcases hs.2.bI with ⟨_,u⟩|u
        .exact u.2 (by grind)
        .exact u.2 (by grind)
       .have ⟨I',cells,g1,g2,g3,g4,g5⟩:=(h'.fJ f o' CH).row;rcases (g5 b QF).1 with ⟨_,u⟩|u
        .exact u.2 ann
        .exact u.2 ann
      simp only [cond_true,opK,k3,k4] at hK;obtain ⟨e2,cj,j1,j2,j3⟩:=bV lm ja hK;have ajL:vU ops (pl++(x',b)::pr) a=vU ops (pl++pr) (a.put o.dst (vOf b)):=by
       have wo: ∀p∈pl++pr,∀dd,wD ops p.1=some dd->o.dst≠some dd:=by
        intro p hp dd hdd;obtain ⟨q,hq,Iq⟩:=afe p (abM p hp);have abN:p.1∈rest:=by
         rcases aee.1 (OO p (abM p hp)) with he|he
         .grind
         .exact he
        have:=OF.1 d4 p.1 abN;have hq':ops.toList[p.1]? =some q:=by simpa using hq
        simp only [hq',Iq,cond_true,bo] at this;exact (JM hq (.inl (Be this.1)) dd hdd).2
       exact Rr (by simp [wD,hx]) a pr pl wo
      rw [ajL,<-j3];have hlen:(x'::rest).length-(pl++(x',b)::pr).length=rest.length-(pl++pr).length:=by simp only [aiU,ab3];omega
      rw [hlen];refine ihm rest (x'::pre) (pl++pr) l' listed e2 cj _ w ?_ j1 j2 (by grind) hpk d5 ?_ V3 ahL ?_ ?_ ?_ ?_ ?_
      .grind
      .refine hL.congr (λi=> ?_);grind
      .grind
      .grind
      .grind
      .intro p hp;have ⟨q1,q2,q3⟩:=hpe p (abM p hp);exact ⟨q1,λoff=>by rw [j3];exact q2 off,q3⟩
      grind
     .have abN: ∀p∈pd,p.1∈rest:=(by grind)
      have hlr:pd.length<=rest.length:=by have h1:(pd.map (·.1)).length<=rest.length:=NH Nd (by grind);simpa using h1
      have ano:(x::rest).length-pd.length=(rest.length-pd.length)+1:=by simp only [aiU];omega
      rw [ano];have hun:x∉pd.map (·.1)++pre:=by simp only [afw,not_or];exact ⟨hxp,JN⟩
      have CQ:x∈sh .any ops listed:=by refine mem_ready.2 ⟨(hL.ot T3).2 hun,o,hx,λed hed hb=> ?_⟩;have:=OF.1 d1 ed (by simpa using hed);simp only [wC,hb,akp,akq] at this;have hm:=(bm _ _).1 this;exact (hL.done (ajJ _ hm)).2 (by simp [hm])
      have next: ∀(e':Env) (cj:St) (a':Act) (w':World),bC c (Z.outs (pd.map (·.2))) e' cj a' w'->Trans (Z.outs (pd.map (·.2))).In e.φ w e'.φ w'->DN c ops.toList l' cj K=some r->zi P c ops N e.φ (rest.length-pd.length) (listed.setIfInBounds x true) (vU ops pd a') w':=by
       intro e' cj a' w' h1 t1 qH;refine X0 t1.ph _ _ _ _ ?_;refine ihm rest (x::pre) pd l' _ e' cj a' w' ?_ h1 qH (ht.trans (t1.wide λb hb=>hb.1)) hpk d5 ((hL.set T3).congr λi=> ?_) V3 ahL abN Nd Ik (λp hp=>(hpe p hp).later (by grind) t1) hlr
       .grind
       .grind
      cases ZS:fK o&&!eY c o with
      |true=>
       simp only [ZS,cond_true] at d4;have wo: ∀p∈pd,∀dd,wD ops p.1=some dd->dd∉o.looksAt ops/\o.dst≠some dd:=by intro p hp;obtain ⟨q,hq,Iq⟩:=afe p hp;exact JM hq (.inr (Rs rest [x] d4 p.1 (abN p hp) q hq Iq))
       obtain ⟨hex,hwn⟩:=Hd ahM a pd (λp hp d hd=>(wo p hp d hd).1);obtain ⟨D,D1,D2,D3,D4⟩:=vT rest [x] d4 (λy hy dt=>absurd (by simpa using hy) dt);have pv: ∀j oj,ops[j]? =some oj->j∉D->j≠x->listed.getD j true=false->o.apart ops oj=true/\(jq c o=true->still c o=false->pK c o ops j=true):=by
        intro j oj hoj hjD hjx T0;have Rt:j<ops.size:=(by grind)
        have hjr:j∈rest:=by
         rcases V3 j Rt with h1|h1
         .rcases aee.1 h1 with h1|h1
          .grind
          .exact absurd (by simp [h1]) ((hL.ot Rt).1 T0)
         .exact h1
        obtain ⟨p,hp1,ZI,hp3⟩:=D4 j hjr hjD;rw [hoj] at hp1;cases hp1;exact (by grind [pK])
       have JL: ∀d∈D,listed.getD d false=false:=by
        have awT: ∀p∈pd,p.1∉D:=by intro p hp hpD;obtain ⟨q,hq,Iq⟩:=afe p hp;obtain ⟨ed,hed,hb,_⟩:=D3 p.1 q hpD (by grind) hq;obtain ⟨_,_,_,_,_,dt⟩:=Bf Iq;rw [dt ed hed] at hb;cases hb
        intro d hd;have hdn:d∉pd.map (·.1)++pre:=by
         simp only [afw,not_or];constructor
         .grind
         .grind [lG]
        by_cases Rl:d<ops.size
        .cases hg:listed.getD d false with
         |false=>rfl
         |true=>exact absurd ((hL.done Rl).1 hg) hdn
        .have hl: ¬d<listed.size:=by rw [hL.size];exact Rl
         simp [hl]
       cases go with
       |true=>have ⟨v,hv,e2,cj,k1,k2,k3⟩:=(TR (Q:=oq N) hG h' hK).arx (by simp at ZS;exact ZS.1) (by simp at ZS;exact ZS.2);refine xG D3 hx O9 (rest.length-pd.length) listed _ w pv JL CQ (.inl ⟨by rw [hwn];exact hw,λw' hg=>by rw [hex];exact hv w' hg⟩) h.jU ?_;rw [Ef a o.dst v pd (λp hp d hd=>(wo p hp d hd).2)];grind
       |false=>have ⟨e2,cj,k1,k2,k3⟩:=bV (v:=undef) (s:= .skip) h' ⟨rfl,trivial⟩ hK;refine xG D3 hx O9 (rest.length-pd.length) listed _ w pv JL CQ (.inr ⟨by rw [hwn];exact hw,rfl⟩) h.jU ?_;rw [Ef a o.dst undef pd (λp hp d hd=>(wo p hp d hd).2)];exact next e2 cj _ w k1 (by rw [k3];exact .refl _ _ _) k2
      |false=>
       simp only [ZS,cond_false] at d4;have wo: ∀p∈pd,∀dd,wD ops p.1=some dd->dd∉o.looksAt ops/\o.dst≠some dd:=by
        intro p hp;obtain ⟨q,hq,Iq⟩:=afe p hp;have:=OF.1 d4 p.1 (abN p hp);have hq':ops.toList[p.1]? =some q:=by simpa using hq
        simp only [hq',Iq,cond_true,bo] at this;exact JM hq (.inl (Be this.1))
       refine ⟨(by grind),λi hi=> ?_⟩;obtain ⟨arV,oi,hoi,T4⟩:=mem_ready.1 hi;have X2:i<ops.size:=(by grind)
       have zY:=(hL.ot X2).1 arV;simp only [afw,not_or] at zY;by_cases ZR:i=x
       .subst ZR;have lm:wpOp P ops (oq N) i (λa' w'=>(∀oi,pK c oi ops i=true->dP c oi w w')/\ ∃e2 cj,bC c (Z.outs (pd.map (·.2))) e2 cj a' w'/\Trans (Z.outs (pd.map (·.2))).In e.φ w e2.φ w'/\DN c ops.toList l' cj K=some r) a w:=by
         unfold wpOp;simp only [hx];rw [hw];cases go with
         |true=>
          left;have hd:=TR (Q:=oq N) hG h' hK;cases XB:Oz c o with
          |true=>simp only [Oz,alu] at XB;refine ahQ ?_ (hd.ary XB);rintro a' w' ⟨hg,e2,cj,k1,k2,k3⟩;grind [hg.for]
          |false=>
           by_cases hme: ∃oi,uO oi o=true
           .have ⟨oi0,hme⟩:=hme;refine ahQ ?_ (amR (Q:=oq N) hG h' hK hme);rintro a' w' ⟨hg,e2,cj,k1,k2,k3⟩;grind [uO,pK,TZ]
           .refine ahQ ?_ hd.wp;rintro a' w' ⟨e2,cj,k1,k2,k3⟩;grind [absurd,pK]
         |false=>have ⟨e2,cj,k1,k2,k3⟩:=bV (v:=undef) (s:= .skip) h' ⟨rfl,trivial⟩ hK;exact ⟨λ_ _=>(cq.refl w).for,e2,cj,k1,by rw [k3];exact .refl _ _ _,k2⟩
        refine wpOp_mono ?_ (V2 hx ahM lm pd wo);rintro a' w' ⟨a2,rfl,hg,e2,cj,k1,k2,k3⟩;exact ⟨⟨hg,λb o v hv=>k1.jU b o v (k2.ph b o v hv)⟩,(by grind)⟩
       .have hir:i∈rest:=by
         rcases V3 i X2 with h1|h1
         .grind
         .exact h1
        have aff:=OF.1 d4 i hir;have ajN:ops.toList[i]? =some oi:=by simpa using hoi
        simp only [ajN] at aff;cases Iq:HD oi with
        |false=>
         exfalso;simp only [Iq,cond_false] at aff;have ⟨ed,hed,hb⟩:=afh.1 aff;simp at hb;have ⟨ru,Cf⟩:=hb;have V4:=T4 ed (by simpa using hed) ru;have Mh:ed.on∉pd.map (·.1)++pre:=by
          rcases Cf with Cf|⟨Cf,hb3⟩
          .grind [AT]
          .simp;refine ⟨λhm=> ?_,(by grind [lG,bm])⟩;grind [aiL]
         by_cases sB:ed.on<ops.size
         .exact Mh ((hL.done sB).1 V4)
         .have:listed.getD ed.on false=false:=by
           have hl: ¬ed.on<listed.size:=by rw [hL.size];exact sB
           simp [hl]
          grind
        |true=>
         obtain ⟨t,d,q1,q2,q3,q4⟩:=Bf Iq;have hI: ∃I,c.tv t=some I:=by
          simp only [Iq,cond_true,bo,aiK,q1] at aff;cases htv:c.tv t with
          |none=>grind
          |some I=>grind
         obtain ⟨I,hI⟩:=hI;obtain ⟨inf,z,hz1,hz2,hz3⟩:=CP hI hG.ti;have hg:cq w (w.alloc (.cells z.cells t)):= .alloc w _ _;unfold wpOp;simp only [hoi];have hwn:BY oi (yielded ops (vU ops pd a).tmps)=true:=by simp [BY,q3]
         simp only [hwn,if_true];left;have bF:(execOp (vU ops pd a).eval oi).run P w= .ok (.value (vOf w.heap.size)) (w.alloc (.cells z.cells t)):=by simp [execOp,q1,Instr.alloc,zeroValue,typeInfo,hz1,hz2,newVar,newRow,newObj,alM,vOf]
         unfold ahP;rw [bF];simp only [ahT];refine ⟨⟨λ_ _=>hg.for,(h.grow hg).jU⟩,?_⟩;have uw:w.heap.size<(w.alloc (.cells z.cells t)).heap.size:=aaS
         have awW: ∀p∈pd,p.2<w.heap.size:=λp hp=>by have ⟨_,_,_,_,_,_,_,_,_,_,_,k6,_⟩:=(hpe p hp).row;grind
         have ajL:(vU ops pd a).put oi.dst (vOf w.heap.size)=vU ops ((i,w.heap.size)::pd) a:=by simp [vU,wD,hoi]
         rw [ajL];have DZ:rest.length-pd.length=(x::rest).length-((i,w.heap.size)::pd).length:=by simp only [aiU];omega
         rw [DZ];refine ihm (x::rest) pre ((i,w.heap.size)::pd) (o::l') _ e st a _ ?_ (h.narrow hg uw) ?_ (ht.trans (hg.trans (λb hb=>(h.bI b hb).1) _)) ?_ hd0 ?_ rV ajJ ?_ ?_ ?_ ?_ ?_
         .omega
         .exact ajK
         .grind [qn]
         .refine (hL.set X2).congr (λj=> ?_);simp
         .grind
         .grind
         .refine ahI.2 ⟨λhm=> ?_,Ik⟩;have ⟨p,hp,he⟩:=alk.1 hm;grind
         .intro p hp;rcases aee.1 hp with rfl|hp
          .refine ⟨⟨oi,t,I,d,z.cells,t,hoi,Iq,q1,hI,q2,fL w _,hz3⟩,λoff=> ?_,(h.bI _ (ad1 _)).1⟩;cases hp:e.φ w.heap.size off with
           |none=>rfl
           |some v=>have:=No w _ (h.jU _ _ _ hp);simp at this
          .have ⟨⟨o1,t1,I1,d1,arW,T1,k1,k2,k3,k4,k5,k6,k7⟩,q5,q6⟩:=hpe p hp;exact ⟨⟨o1,t1,I1,d1,arW,T1,k1,k2,k3,k4,k5,by rw [hg.qo _ (a8 k6)];exact k6,k7⟩,q5,q6⟩
         grind
def Ru (hG:Good P c){ops:Array Oper}{l:List Oper}{ord:List Nat}(hd:sK c ops ord=true)(hp:qn ops.toList ord=some l){Z:bn}{e:Env}{st:St}{a:Act}{w:World}{R:Type}{K:St->Option R}{r:R}(h:bC c Z e st a w)(hK:DN c ops.toList l st K=some r): wpAny P .any ops (oq λa' w'=>Out c Z K r e.φ w a' w') ops.size (AI ops.size false) a {w with drawn:=w.drawn+1}:=by
 simp only [sK,bo] at hd;have ⟨⟨⟨hns,hl0⟩,rV⟩,hd⟩:=hd;have O9: ∀(j:Nat) (o:Oper) cs b,ops[j]? =some o->o.op≠ .select cs b:=by intro j o cs b ho he;have:=OF.1 hns o (by grind);simp [he] at this
 have ahN:cq w {w with drawn:=w.drawn+1}:=⟨ad1 _,λ_ _=>rfl,rfl,rfl,rfl⟩
 .refine Rq (c:=c) (φ:=e.φ) _ _ _ _ ?_;have hlen:ord.length=ops.size:=by have:=AT hl0;simpa using this
  rw [<-hlen];have h0:bC c (Z.outs []) e st a {w with drawn:=w.drawn+1}:=(h.grow ahN).Aa (λb hb=>⟨hb,aaS⟩) (λb hb=>⟨hb,aaS⟩) rfl rfl rfl rfl;refine afd hG O9 (λa' w' h=>h) (2 *ord.length) ord [] [] l _ e st a _ aaS h0 hK (ahN.trans h.bI e.φ) hp hd ⟨by simp [hlen],λi hi=> ?_⟩ (λi hi=> .inr ((bm _ _).1 (by grind))) aaS aaS aaS aaS aaS aaS;simp_all
end
theorem He {S:Type}{step:S->MV->Option (Bool×S)}: ∀{xs zs:List MV} {s:S},pG step s (xs++zs)=(match pG step s xs with|some (ys,s1)=>(match pG step s1 zs with|some (us,s2)=>some (ys++us,s2)|none=>none)|none=>none):=by
 intro xs;induction xs with
 |nil=>grind [pG]
 |cons x xs ih=>grind [pG]
def V5 {S:Type}{step:S->MV->Option (Bool×S)}{xs:List MV} {s s':S}{ys:List MV}(h:pG step s xs=some (ys,s')){k:Nat}(hk:k<xs.length): ∃yk sk b sk',pG step s (xs.take k)=some (yk,sk)/\step sk xs[k]=some (b,sk')/\pG step s (xs.take (k+1))=some (bif b then yk else yk++[xs[k]],sk'):=by
 have e:xs=xs.take k++xs[k]::xs.drop (k+1):=aaS
 rw [e,He] at h;cases h1:pG step s (xs.take k) with
 |none=>grind
 |some p=>
  obtain ⟨yk,sk⟩:=p;simp only [h1,pG] at h;cases h2:step sk xs[k] with
  |none=>grind
  |some q=>
   obtain ⟨b,sk'⟩:=q;refine ⟨yk,sk,b,sk',rfl,h2,?_⟩;have e2:xs.take (k+1)=xs.take k++[xs[k]]:=by rw [aln,aeP hk];rfl
   grind [He,pG]
def abO {S:Type}{step:S->MV->Option (Bool×S)}: ∀{xs:List MV} {s s':S} {ys:List MV},pG step s xs=some (ys,s')->ys.length<=xs.length:=by
 intro xs;induction xs with
 |nil=>grind [pG]
 |cons x xs ih=>grind [pG,ad0,ahw]
structure xH (P:Program) (c:Ctx) (g:Nat) (lb:Array Value) {S:Type} (Inv:S->(Nat->Prop)->Ph->World->Prop) (step:S->MV->Option (Bool×S)):Prop where
 call: ∀{s Z φ W v x b s'},Inv s Z φ W->(∀b,W.heap.size<=b->Z b)->ni φ W->cG c.key φ v x->step s x=some (b,s')-> da P g (#[v]++lb) W λr W'=>r= .bool b/\ ∃φ',Trans Z φ W φ' W'/\ni φ' W'/\Inv s' Z φ' W'
 frame: ∀{s Z φ W W'},Inv s Z φ W->W.heap.size<=W'.heap.size->(∀b,Z b->b<W.heap.size->W'.heap[b]? =W.heap[b]?)->Inv s (λb=>Z b/\b<W.heap.size) φ W'
 mono: ∀{s Z Z' φ W},Inv s Z φ W->(∀b,Z b->Z' b)->Inv s Z' φ W
structure BQ (c:Ctx) (ob:Option Nat) {S:Type} (Inv:S->(Nat->Prop)->Ph->World->Prop) (Z0:Nat->Prop) (φ0:Ph) (w0:World) (s:S) (Z:Nat->Prop) (φ:Ph) (W:World):Prop where
 inv:Inv s Z φ W
 new: ∀b,W.heap.size<=b->Z b
 sub: ∀b,Z b->Z0 b\/w0.heap.size<=b
 jU:ni φ W
 tr:Trans (λb=>(Z0 b\/w0.heap.size<=b)\/ob=some b) φ0 w0 φ W
 free: ∀b off,ob=some b->φ b off=none
structure Pa (P:Program) (c:Ctx) (h el:Nat):Prop where
 run: ∀{S:Type} {Inv:S->(Nat->Prop)->Ph->World->Prop} {step:S->MV->Option (Bool×S)} {g:Nat} {lb:Array Value},xH P c g lb Inv step-> ∀{v0:Value} {xs ys:List MV} {w:World} {Z0:Nat->Prop} {φ0:Ph} {s0 s':S},(∀x∈xs,∃ms,x= .agg ms)->bU c (bn.plain λb=>v0.ownBlock=some b) (mT c.key φ0) w v0 ⟨el,false,xs⟩->(∀b,v0.ownBlock=some b-> ¬Z0 b)-> Inv s0 Z0 φ0 w->(∀b,w.heap.size<=b->Z0 b)->ni φ0 w->pG step s0 xs=some (ys,s')-> da P h #[v0,.func (.func g) #[] lb] w λv W=> ∃Z φ,BQ c v0.ownBlock Inv Z0 φ0 w s' Z φ W/\bU c (bn.plain λb=>v0.ownBlock=some b) (mT c.key φ) W v ⟨el,false,ys⟩/\ ∀b,v.ownBlock=some b->v0.ownBlock=some b
def sY (P:Program)(c:Ctx):Prop:= ∀h,c.Oo h=true->Pa P c h (c.lq (c.key h))
section
variable {P:Program}{c:Ctx}{Z:bn}{Z':Nat->Prop}{e e':Env}{st bG:St}{a:Act}{w w':World}{R:Type}{K:St->Option R}{r:R}{Q:Exit->Act->World->Prop}{o:Oper}{root:Nat}{cs:List ax}{ks:List LK}{ls outs:List MV}{ps:List (Nat×Nat)}{φ':Ph}{ops:Array Oper}
theorem X3 (h:bC c Z e st a w)(hf:ap st.fr root= .box cs)(hm:dx cs=false)(hr:bB st.ca root=false)(ht:TC st [] ks cs ls ps)(hZ: ∀b,Z' b↔w.heap.size<=b\/gone e root ps b){X:Nat->Prop}(hXb: ∀t gl,ap st.fr t= .box gl-> ¬X (e.B t))(hXf: ∀f o b,aB st.aF f=some o->(e.E f).ownBlock=some b-> ¬X b)(xj:Trans (λb=>Z' b\/X b) e.φ w φ' w')(hi:ni φ' w')(hc:ez c Z' φ' w' (e.B root) ks outs)(hK:M6 st root ks ps outs K=some r): ∃e' bG,bC c Z e' bG a w'/\e'.φ=φ'/\(∀b,X b-> ¬Z' b->(∀t gl,ap bG.fr t= .box gl->e'.B t≠b)/\ ∀f o,aB bG.aF f=some o->(e'.E f).ownBlock≠some b)/\K bG=some r:=by
 unfold M6 at hK;obtain ⟨Ih,rest,A4,g1,hK⟩:=lF hK;cases rest with
 |cons=>grind [gN]
 |nil=>
 simp only [gN,Q3] at hK;cases pz:M5 (bx ks) (kX (dH ps) st.aF)||meets (bx ks) st.ch with
 |true=>grind
 |false=>
 simp only [pz,cond_false,VU,kU,xm] at hK;obtain ⟨abj,Jx⟩:=ajC.1 pz;have abj:=Ju abj;have Jx:=Jv Jx;obtain ⟨xz,m3,E,arr,T,Fu,bW,hzb,pv,pi,fQ,jt⟩:=hc;have ol:xz=Ih/\m3=A4.aF:=by unfold Nk at Fu;rw [g1] at Fu;simp only [gN,ad0,ahw] at Fu;exact (by grind)
 obtain ⟨rfl,rfl⟩:=ol;have dI:=z6 g1;have gD: ∀f o,aB A4.aF f=some o->f∈bx ks:=λf o ho=>(D8 g1 f o ho).resolve_left (by simp [aB]);have hs:=h.slot root;rw [hf] at hs;have zY: ∀b,Z' b->Z.In b:=by
  intro b hb;rcases (hZ b).1 hb with hb|hb
  .exact h.bI b hb
  .grind [D9]
 have VX: ∀t gl,ap st.fr t= .box gl->t≠root-> ¬Z' (e.B t):=by
  intro t gl htb dt hz;rcases (hZ _).1 hz with hz|hz|⟨x,g,hp,hz⟩
  .have:=sR h htb;omega
  .exact h.bb t root gl cs htb hf dt hz
  .have ⟨o,ho,_⟩:=ht.aF x g hp;exact h.bf t gl g o htb ho hz
 have hold: ∀f o,aB (kX (dH ps) st.aF) f=some o->aB st.aF f=some o/\f∉dH ps:=by
  intro f o ho;rw [Jr] at ho;cases hn:bB (dH ps) f with
  |true=>grind
  |false=>grind [bm]
 have Jy: ∀f o b,aB (kX (dH ps) st.aF) f=some o->(e.E f).ownBlock=some b-> ¬Z' b:=by
  intro f o b ho hb hz;obtain ⟨CH,hnf⟩:=hold f o ho;rcases (hZ _).1 hz with hz|hz|⟨x,g,hp,hz⟩
  .have:=sS h CH hb;omega
  .exact h.bf root cs f o hf CH (by rw [hb,hz])
  .have ⟨o2,cV,_⟩:=ht.aF x g hp;have:=h.ff f g o o2 b CH cV hb hz;grind [G0]
 have ajO: ∀t gl,ap st.fr t= .box gl->t≠root-> ¬(Z' (e.B t)\/X (e.B t)):=(by grind)
 have abP: ∀f o b,aB (kX (dH ps) st.aF) f=some o->(e.E f).ownBlock=some b-> ¬(Z' b\/X b):=(by grind)
 let E2:Nat->Value:=λf=>if bB (bx ks) f=true then E f else e.E f
 have DI: ∀f,f∈bx ks->E2 f=E f:=λf hf=>by show (if _ then _ else _)=_;simp_all [if_pos,bm]
 have Q6: ∀f,f∉bx ks->E2 f=e.E f:=λf hf=>by show (if _ then _ else _)=_;simp_all [if_neg,bm]
 have nC: ∀f o,aB (A4.aF++kX (dH ps) st.aF) f=some o->(f∈bx ks/\aB A4.aF f=some o)\/(f∉bx ks/\aB (kX (dH ps) st.aF) f=some o):=by
  intro f o ho;rw [Ns] at ho;cases hq:aB A4.aF f with
  |some o2=>grind
  |none=>grind
 let e2:Env:=⟨e.key,φ',E2,e.B,A4.aF++kX (dH ps) st.aF⟩
 have sB:jT (λg=>True/\g∉bx ks) (λ_=>True) e e2:=by
  refine ⟨rfl,xj.ph,λ_ _=>rfl,λf o' CH hS=> ?_⟩;rcases nC f o' CH with ⟨h1,_⟩|⟨h1,h2⟩
  .grind
  .exact ⟨o',by grind [h.m],Q6 f h1,rfl⟩
 have Q7:ar e2 arr.toList xz:=by
  have ajk:jT (λf=>f∈bx ks) (λ_=>True) ⟨c.key,φ',E,λ_=>e.B root,A4.aF⟩ ⟨c.key,φ',E2,λ_=>e.B root,A4.aF++kX (dH ps) st.aF⟩:=by
   refine ⟨rfl,.refl _,λ_ _=>rfl,λf o' CH hS=> ?_⟩;rcases nC f o' CH with ⟨h1,h2⟩|⟨h1,_⟩
   .grind
   .grind
  have h1:=pi.on ajk dI;have ajl:jT (λ_=>True) (λ_=>False) ⟨c.key,φ',E2,λ_=>e.B root,A4.aF++kX (dH ps) st.aF⟩ e2:=⟨h.key,.refl _,λ_ h=>h.elim,(by grind)⟩
  exact h1.on ajl (λ_ _ _ _=>trivial)
 have hm3:dx xz=false:=Q7.zS;have Nt: ∀t,ap (dM (wz (bx ks) st.fr) root (.box xz)) t=if t=root then .box xz else D6 (bx ks) (ap st.fr t):=(by grind [bA,Js])
 have xA: ∀t ds,ap (dM (wz (bx ks) st.fr) root (.box xz)) t= .box ds-> ∃ds0,ap st.fr t= .box ds0:=by
  intro t ds hb;rw [Nt] at hb;by_cases xj:t=root
  .grind
  .grind [uX]
 refine ⟨e2,⟨st.ca,st.ch,dM (wz (bx ks) st.fr) root (.box xz),A4.aF++kX (dH ps) st.aF⟩,⟨h.defers,h.size,rfl,h.key,?_,?_,?_,?_,?_,?_,?_,hi,(by grind [aez,xj.size])⟩,rfl,λb hb hnz=>⟨λt ds htb he=> ?_,λf o ho he=> ?_⟩,hK⟩;rotate_left 7
 .grind
 .have he:(E2 f).ownBlock=some b:=he;rcases nC f o ho with ⟨k1,k2⟩|⟨k1,k2⟩
  .rw [DI f k1] at he;have ⟨I,cells,_,_,_,_,q5⟩:=(fQ f o k2).1.row;exact hnz (q5 _ he).1
  grind
 .grind [dg,Jt,h.nodup]
 .intro t;rw [Nt];by_cases vS:t=root
  .subst vS;rw [if_pos rfl];exact ⟨hs.1.lk (by grind [DT]),hs.2.bI,⟨_,bW,rfl,Q7⟩,pv⟩
  .rw [if_neg vS];have eh:=h.slot t;have hnb:=ajO t;generalize ap st.fr t=s at eh hnb;by_cases S0: ∃ds,s= .box ds
   .obtain ⟨ds,rfl⟩:=S0;rw [Q4];have hz:=hnb ds rfl vS;have ⟨o2,h1,h2⟩:=eh.2.obj;refine ⟨eh.1.lk (Nr _ _),eh.2.bI,⟨o2,by rw [xj.heap _ hz (a8 h1)];exact h1,?_⟩,λoff=>by show φ' (e.B t) off=none;rw [xj.free _ off hz];exact eh.2.free off⟩;exact (Q5 h2).on sB (VW _ (λl _ f _=>trivial))
   .have ajm:af e (a.tmps.getD t undef) s:=by cases s<;>simp only [dy] at eh<;>first|exact eh|grind
    have h2:=(ajm.ahB (bx ks)).on sB (VV _ (cZ s));have ajn: ∀ds,D6 (bx ks) s≠ .box ds:=(by grind [uX])
    generalize D6 (bx ks) s=s2 at h2 ajn;cases s2<;>first|exact h2|grind
 .intro t;have hbk: ∀q,cg (ap st.fr q)=true->cg (ap (dM (wz (bx ks) st.fr) root (.box xz)) q)=true:=by
   intro q hq;rw [Nt];by_cases hqr:q=root
   .rw [if_pos hqr];rfl
   .simp_all [if_neg,Jw]
  rw [Nt];by_cases vS:t=root
  .rw [if_pos vS];trivial
  .rw [if_neg vS];refine G3 _ ?_;have pq:=h.root t;generalize ap st.fr t=s at pq;cases s with
   |ptr q o=>exact hbk q pq
   |hp q o i=>exact hbk q pq
   |zK q=>exact hbk q pq
   |_=>trivial
 .intro f o ho;rcases nC f o ho with ⟨h1,h2⟩|⟨h1,h2⟩
  .have hfm:=(fQ f o h2).1;have Cc:f∉Z.ch:=by rw [<-h.defers.2.2.1];exact Jx f h1
   refine bU.to ?_ Cc;have ⟨I,cells,q1,q2,q3,q4,q5⟩:=hfm.row;refine ⟨I,cells,q1,q2,?_,?_,λb hb=> ?_⟩
   .grind
   .grind [h.key]
   .have hb:(E2 f).ownBlock=some b:=hb;rw [DI f h1] at hb;exact ⟨zY b (q5 b hb).1,(q5 b hb).2.1,λhc=>hc.elim⟩
  .have ⟨CH,hnf⟩:=hold f o h2;have ⟨I,cells,q1,q2,q3,q4,q5⟩:=(h.fJ f o CH).row;refine ⟨I,cells,q1,q2,?_,q4.mono xj.ph,?_⟩
   .show w'.ownsRow 0 o.ty I.size (E2 f) o.xs.length cells;rw [Q6 f h1];refine ⟨q3.1,?_⟩;rcases q3.2 with h6|⟨g,cap,cD,k1,k2,k3,k4⟩
    .exact .inl h6
    .refine .inr ⟨g,cap,cD,k1,k2,?_,k4⟩;rw [xj.heap g (abP f o g h2 (by rw [k1];rfl)) (a8 k3)];exact k3
   .intro aQ hb;have hb:(E2 f).ownBlock=some aQ:=hb;rw [Q6 f h1] at hb;refine ⟨(q5 aQ hb).1,λoff u hu=>(q5 aQ hb).2.1 off u ?_,λk1 k2 j hj=>xj.ph.DP (by grind) hj⟩;have hu:φ' aQ off=some u:=hu;rw [xj.free _ off (abP f o aQ h2 hb)] at hu;exact hu
 .intro t t' c1 c2 h1 h2 dt;have ⟨d1,k1⟩:=xA t c1 h1;have ⟨d2,k2⟩:=xA t' c2 h2;exact h.bb t t' d1 d2 k1 k2 dt
 .intro t c1 f o h1 h2;show (E2 f).ownBlock≠some (e.B t);rcases nC f o h2 with ⟨k1,k2⟩|⟨k1,k2⟩
  .rw [DI f k1];by_cases vS:t=root
   .grind
   .have ⟨d1,k3⟩:=xA t c1 h1;intro hq;have ⟨I,cells,_,_,_,_,q5⟩:=(fQ f o k2).1.row;exact VX t d1 k3 vS (q5 _ hq).1
  .rw [Q6 f k1];have ⟨d1,k3⟩:=xA t c1 h1;exact h.bf t d1 f o k3 (hold f o k2).1
 .intro f f' o o' k h1 h2 h3 h4;have h3:(E2 f).ownBlock=some k:=h3;have h4:(E2 f').ownBlock=some k:=h4;rcases nC f o h1 with ⟨k1,k2⟩|⟨k1,k2⟩<;>rcases nC f' o' h2 with ⟨k3,k4⟩|⟨k3,k4⟩
  .grind
  .rw [DI f k1] at h3;rw [Q6 f' k3] at h4;have ⟨I,cells,_,_,_,_,q5⟩:=(fQ f o k2).1.row;exact absurd (q5 _ h3).1 (Jy f' o' k k4 h4)
  .rw [Q6 f k1] at h3;rw [DI f' k3] at h4;have ⟨I,cells,_,_,_,_,q5⟩:=(fQ f' o' k4).1.row;exact absurd (q5 _ h4).1 (Jy f o k k2 h3)
  .rw [Q6 f k1] at h3;rw [Q6 f' k3] at h4;exact h.ff f f' o o' k (hold f o k2).1 (hold f' o' k4).1 h3 h4
def da.imp {P:Program}{f:FuncId}{args:Array Value}{w:World} {R R':Value->World->Prop}(hc:da P f args w R)(h: ∀v w',R v w'->R' v w'):da P f args w R':=by grind [da,Calls.mono,absurd]
def Trans.Aa {I J:Nat->Prop} {φ φ':Ph}(h:Trans I φ w φ' w')(hs: ∀b,I b->J b):Trans J φ w φ' w':=⟨h.ph,λb hb=>h.heap b (λhz=>hb (hs b hz)),λb o hb=>h.free b o (λhz=>hb (hs b hz)),h.size,h.rest⟩
def JP {key:Nat->Nat} {φ:Ph}{v:Value}{b:Bool}(h:cG key φ v (.b b)):v= .bool b:=by have ⟨_,h⟩:=h;generalize DH:[v]=l at h;cases h;grind
def T5 (hS:Sound P c){f:Nat}(hg:c.bK (c.key f)=false){lb:Array Value}{ms:List MV}:xH P c f lb (λ(_:Unit) (_:Nat->Prop) φ (_:World)=>aL c.key φ lb.toList ms) (aap c.g (c.key f) ms):=by
 refine ⟨?_,λh _ _=>h,λh _=>h⟩;intro s Z φ W v x b s' hinv ja iu T6 eh;unfold aap at eh;split at eh
 .rename_i b' hx;simp only [ad0,ahw] at eh;have ⟨rfl,_⟩:=eh;have di:cv c (λb=>W.heap.size<=b) φ W (c.key f) (v::lb.toList) (x::ms):=by simp only [cv,hg,AS,if_false];exact ⟨v,lb.toList,rfl,T6,hinv⟩
  have:=hS f (x::ms) (.b b') hx φ W (λb=>W.heap.size<=b) _ (λb hb=>hb) di iu;have e1:(v::lb.toList).toArray= #[v]++lb:=by apply aeU.1;simp
  rw [e1] at this;refine this.imp ?_;rintro v' w' ⟨φ',t1,t2,t3⟩;exact ⟨JP t3,φ',t1.Aa ja,t2,hinv.mono t1.ph⟩
 .cases eh
def X4 (hS:Sound P c){f pos aQ:Nat}{ks:List LK}{ms:List MV}{lb0:List Value}(hg:c.bK (c.key f)=true)(zh:c.sig (c.key f)=some (pos,ks,ks))(fj:pos=ms.length+1): xH P c f (lb0++[ahA (some ⟨aQ,0,none⟩)]).toArray (λls Z φ W=>ez c Z φ W aQ ks ls/\aL c.key φ lb0 ms) (QA c.g (c.key f) ms):=by
 refine ⟨?_,?_,λh hz=>⟨h.1.wide hz,h.2⟩⟩
 .intro ls Z φ W v x b s' hinv ja iu T6 eh;have ⟨qE,wB⟩:=hinv;unfold QA at eh;split at eh
  .rename_i b' outs hx;simp at eh;have ⟨rfl,rfl⟩:=eh;have hl:=wB.length;have di:cv c Z φ W (c.key f) (v::(lb0++[ahA (some ⟨aQ,0,none⟩)])) (x::(ms++[.cell (.func 0 ls)])):=by
    simp only [cv,hg,if_true];refine .inr (.inr ⟨pos,ks,ks,0,ls,aQ,zh,?_,?_,?_,qE⟩)
    .grind
    .grind
    .rw [fj,List.set_cons_succ,List.set_append_right _ _ (ad1 _),Nat.sub_self];exact ⟨v,_,rfl,T6,wB.append ⟨_,[],rfl,⟨rfl,.rp aQ 0 [] [] .nil aaS⟩,rfl⟩⟩
   have:=hS f _ _ hx φ W Z _ ja di iu;have e1:(v::(lb0++[ahA (some ⟨aQ,0,none⟩)])).toArray= #[v]++(lb0++[ahA (some ⟨aQ,0,none⟩)]).toArray:=by apply aeU.1;simp
   rw [e1] at this;refine this.imp ?_;rintro v' w' ⟨φ',t1,t2,pk,pos',ks',ko',anr,Tg,zf,VI,hc⟩;rw [zh] at zf;simp at zf;have ⟨rfl,rfl,rfl⟩:=zf;have hb:anr=aQ:=by rw [fj,List.getElem?_cons_succ,<-hl,aer (ad1 _)] at VI;simp at VI;exact VI.1.symm
   subst hb;exact ⟨JP pk,φ',t1,t2,hc,wB.mono t1.ph⟩
  .cases eh
 .intro ls Z φ W W' hinv uw kW;have ⟨⟨cs,m,E,arr,T,k1,k2,k3,k4,k5,k6,k7⟩,wB⟩:=hinv;have dh:=a8 k2;refine ⟨⟨cs,m,E,arr,T,k1,(by grind),⟨k3,dh⟩,k4,k5,λf' o' ho=>⟨?_,(k6 f' o' ho).2⟩,k7⟩,wB⟩;have ⟨I,cells,q1,q2,q3,q4,q5⟩:=(k6 f' o' ho).1.row;refine ⟨I,cells,q1,q2,⟨q3.1,?_⟩,q4,λb hb=>⟨⟨(q5 b hb).1,Jl q3 hb⟩,(q5 b hb).2⟩⟩;rcases q3.2 with h6|⟨g,cap,cD,r1,r2,r3,r4⟩
  .exact .inl h6
  .exact .inr ⟨g,cap,cD,r1,r2,(kW g (q5 g (by rw [r1];rfl)).1 (a8 r3)).trans r3,r4⟩
def V6 {xs:List MV}(h:xs.all Xm=true): ∀x∈xs,∃ms,x= .agg ms:=by intro x hx;have:=OF.1 h x hx;cases x<;>simp [Xm] at this;grind
theorem put_comm {a:Act}{x y:Nat}(h:x≠y)(v u:Value):(a.put (some x) v).put (some y) u=(a.put (some y) u).put (some x) v:=by show ({a with tmps:=(a.tmps.setIfInBounds x v).setIfInBounds y u}:Act)={a with tmps:=(a.tmps.setIfInBounds y u).setIfInBounds x v};rw [aii v u h]
def V7 {y d:Nat}{o1 o2:Oper}{h:Nat} {v0 v' fv:Value}{ys:List MV} {φ0:Ph}{w0:World}(hs:bC c Z e st a w)(h1:o1.dst=some y)(h2:o2.dst=some d)(hyd:d≠y)(zY: ∀b,v0.ownBlock=some b->Z.In b)(fQ:bU c (bn.plain λb=>v0.ownBlock=some b) (mT c.key e.φ) w v' ⟨c.lq (c.key h),false,ys⟩)(dI: ∀b,v'.ownBlock=some b->v0.ownBlock=some b)(wo: ∀b,v0.ownBlock=some b->(∀t gl,ap st.fr t= .box gl->e.B t≠b)/\ ∀f o,aB st.aF f=some o->(e.E f).ownBlock≠some b)(ht:Trans Z φ0 w0 e.φ w)(hK:(ir st (o2.dst.getD 0) ⟨c.lq (c.key h),false,ys⟩ λst=>aR c st o2.dst (.sc (.own (o2.dst.getD 0))) λst=>aR c st o1.dst (.sc .un) K)=some r):Out c Z K r φ0 w0 ((a.put o1.dst fv).put o2.dst v') w:=by
 have Cc:=hs.npf hK;have qH:=nS hK;have DZ:bU c Z.nc e w v' ⟨c.lq (c.key h),false,ys⟩:=by obtain ⟨I,cells,g1,g2,g3,g4,g5⟩:=fQ.row;refine ⟨I,cells,g1,g2,g3,by rw [hs.key];exact g4,λaQ hb=>⟨zY aQ (dI aQ hb),(g5 aQ hb).2.1,λhc=>hc.elim⟩⟩
 have Il:=hs.OP Cc DZ (by grind);have ⟨I,cells,g1,g2,g3,g4,g5⟩:=fQ.row;have j0:v'.oneCell'=true:=by rcases g3.2 with ⟨rfl,_⟩|⟨g,cap,cD,rfl,_⟩<;>rfl
 have ⟨e3,jQ,q1,q2,q3⟩:=bV (v:=v') (s:= .sc (.own (o2.dst.getD 0))) Il (.of (qI j0) trivial) qH;have ⟨e4,st4,q4,q5,q6⟩:=bV (v:=fv) (s:= .sc .un) q1 (.of (by simp [af]) trivial) q2;rw [h1,h2] at q4;rw [put_comm hyd] at q4;rw [h1,h2];exact ⟨e4,st4,q4,by rw [q6,q3];exact ht,q5⟩
theorem afg (hS:Sound P c){h f x y d:Nat}{aJ:Array Operand}{cl:Call}{o1 o2:Oper}(hd:Pa P c h (c.lq (c.key h)))(h1:o1.op= .makeFunc (.func f) #[] aJ)(h2:o2.op= .call cl)(BP:cl.callee= .value (.func h))(di:cl.args.toList=[.tmp x,.tmp y])(hd1:o1.dst=some y)(hd2:o2.dst=some d)(hxy:x≠y)(hyd:d≠y)(hyn:y<c.n)(lm:bC c Z e st a w)(hK:aaq c h f aJ.toList (.tmp x) o1 o2 st K=some r): o1.wp P a w (λa1 w1=>o2.wp P a1 w1 (Out c Z K r e.φ w) Q) Q:=by
 have ans:(execOp a.eval o1).run P w= .ok (.value (.func (.func f) #[] (aJ.map a.eval))) w:=by simp [execOp,h1,Instr.makeFunc]
 unfold ahP;rw [ans,afA];have Md: ∀v:Value,(a.put o1.dst v).eval (.tmp x)=a.eval (.tmp x)/\(a.put o1.dst v).eval (.tmp y)=v:=by
  intro v;rw [hd1];have hy:y<a.tmps.size:=by rw [lm.size];exact hyn
  constructor
  .show (a.put (some y) v).tmps.getD x undef=a.tmps.getD x undef;rw [Act.zR hy,if_neg hxy]
  .show (a.put (some y) v).tmps.getD y undef=v;rw [Act.zR hy,if_pos rfl]
 have ajP: ∀v:Value,cl.args.map (a.put o1.dst v).eval= #[a.eval (.tmp x),v]:=by intro v;apply aeU.1;rw [ai2,di];simp [(Md v).1,(Md v).2]
 have NI: ∀v:Value,(execOp (a.put o1.dst v).eval o2).run P w=(callFunc h #[a.eval (.tmp x),v]).run P w:=by intro v;have:=ajP v;simp [execOp,h2,resolve,BP,this,Act.eval,aeo,invoke]
 unfold aaq at hK;cases zh:c.sig (c.key f) with
 |none=>
  simp only [zh] at hK;cases hg:c.bK (c.key f) with
  |true=>grind
  |false=>
  simp only [hg,cond_false] at hK;have ⟨e1,cz,ms,s1,x1,r1,qH,j0⟩:=sP lm hK;have ⟨e2,cj,xs,G,rq⟩:=sV s1 (s1.eval (.tmp x)).1 qH;have ⟨JQ,DJ⟩:=cN rq;have ⟨p,hp,S1⟩:=ng DJ;have wB:aL c.key e1.φ (aJ.map a.eval).toList ms:=by have:=fq.one r1 j0;rw [s1.key] at this;simpa using this
  have JL: ∀b,(a.eval (.tmp x)).ownBlock=some b-> ¬w.heap.size<=b:=by intro b hb;obtain ⟨I,cells,_,_,g3,_⟩:=G.row.row;have:=Jl g3 hb;omega
  have uW:=hd.run (T5 hS hg) (V6 JQ) G.row JL wB (λb hb=>hb) s1.jU hp;refine sW (NI _) uW ?_;rintro v' w' ⟨Zw,φ',hW,fQ,dI⟩;have afi: ∀b,((w.heap.size<=b\/w.heap.size<=b)\/(a.eval (.tmp x)).ownBlock=some b)->Z.In b:=by
   rintro b ((hb|hb)|hb)
   .exact s1.bI b hb
   .exact s1.bI b hb
   .exact G.In b hb
  have hzb: ∀t cs,ap cj.fr t= .box cs-> ¬((w.heap.size<=e2.B t\/w.heap.size<=e2.B t)\/(a.eval (.tmp x)).ownBlock=some (e2.B t)):=by
   rintro t cs ht ((hb|hb)|hb)
   .grind [sR,G.sU]
   .grind [sR,G.sU]
   .exact G.box t cs ht hb
  have hzf: ∀f o k,aB cj.aF f=some o->(e2.E f).ownBlock=some k-> ¬((w.heap.size<=k\/w.heap.size<=k)\/(a.eval (.tmp x)).ownBlock=some k):=by
   rintro f o k ho hk ((hb|hb)|hb)
   .grind [sS,G.sU]
   .grind [sS,G.sU]
   .exact G.fJ f o k ho hk hb
  have xj:=hW.tr;rw [<-G.φ] at xj;have hs3:=G.sU.called afi hzb hzf xj hW.jU;have vS:Trans Z e.φ w φ' w':=x1.tr.trans (hW.tr.Aa afi);exact V7 (e:={e2 with φ:=φ'}) hs3 hd1 hd2 hyd G.In fQ dI (by grind) vS S1
 |some sg=>
  have ⟨pos,ks,ko⟩:=sg;simp only [zh] at hK;have ⟨e1,cz,ms,s1,x1,r1,qH,j0⟩:=sP lm hK;have ⟨e2,cj,xs,G,rq⟩:=sV s1 (s1.eval (.tmp x)).1 qH;have ⟨JQ,DJ⟩:=cN rq;cases V8:aJ.toList.getLast? with
  |none=>grind
  |some y0=>
  simp only [V8] at DJ;split at DJ;rotate_left
  .cases DJ
  rename_i root abm;split at DJ;rotate_left
  .cases DJ
  rename_i cs hf;cases pz:dx cs||bB cj.ca root||!gn c ks||!ad9 pos (ms.length+1)||!c.bK (c.key f)||!VF ks ko with
  |true=>grind
  |false=>
  simp only [pz,cond_false] at DJ;simp only [ajC,Bool.not_eq_false'] at pz;have ⟨⟨⟨⟨⟨hm,hr⟩,ll⟩,fj⟩,hg⟩,hko⟩:=pz;have hko:=O0 hko;subst hko;have fj:=AT fj;have ⟨ls,ps,ht,S1⟩:=CO DJ;have ⟨p,hp,hK5⟩:=ng S1;have ⟨ys,outs⟩:=p;have hy0:a.eval y0= .pointer (some ⟨e2.B root,0,none⟩):=by have:=(G.sU.eval y0).1;rw [abm] at this;exact this
  have ant:(aJ.map a.eval)=((aJ.toList.dropLast.map a.eval)++[ahA (some ⟨e2.B root,0,none⟩)]).toArray:=by
   apply aeU.1;rw [ai2];have dt:aJ.toList≠[]:=by intro e;rw [e] at V8;simp at V8
   have h3:aJ.toList=aJ.toList.dropLast++[y0]:=by have h4:=List.dropLast_concat_getLast dt;have h5:=List.getLast?_eq_some_getLast dt;rw [V8] at h5;rw [alv h5];exact h4.symm
   rw [h3];simp [hy0]
  have wB:aL c.key e2.φ (aJ.toList.dropLast.map a.eval) ms:=by have:=fq.one r1 j0;rw [s1.key,<-G.φ] at this;exact this
  have HH:bU c (bn.plain λb=>(a.eval (.tmp x)).ownBlock=some b) (mT c.key e2.φ) w (a.eval (.tmp x)) ⟨c.lq (c.key h),false,xs⟩:=by rw [G.φ];exact G.row
  let Z2:Nat->Prop:=λb=>w.heap.size<=b\/gone e2 root ps b;have hgx: ∀b,(a.eval (.tmp x)).ownBlock=some b-> ¬gone e2 root ps b:=by
   rintro b hb (rfl|⟨q,g,hp,hq⟩)
   .exact G.box root cs hf hb
   .have ⟨o,ho,_⟩:=ht.aF q g hp;exact G.fJ g o b ho hq hb
  have dh: ∀b,(a.eval (.tmp x)).ownBlock=some b->b<w.heap.size:=by intro b hb;obtain ⟨I,cells,_,_,g3,_⟩:=G.row.row;exact Jl g3 hb
  have JL: ∀b,(a.eval (.tmp x)).ownBlock=some b-> ¬Z2 b:=by
   rintro b hb (h'|h')
   .grind
   .grind
  have qE:ez c Z2 e2.φ w (e2.B root) ks ls:=(Jq G.sU hf hm ll ht).wide λb hb=> .inr hb;have uW:=hd.run (X4 hS hg zh fj) (V6 JQ) HH JL ⟨qE,wB⟩ (λb hb=> .inl hb) G.sU.jU hp;rw [<-ant] at uW;refine sW (NI _) uW ?_;rintro v' w' ⟨Zw,φ',hW,fQ,dI⟩;have hZ2: ∀b,Z2 b\/w.heap.size<=b->Z2 b:=(by grind)
  have afi: ∀b,Z2 b->Z.In b:=λb hb=>hb.elim (G.sU.bI b) (D9 G.sU hf hr ht b);have xj:Trans (λb=>Z2 b\/(a.eval (.tmp x)).ownBlock=some b) e2.φ w φ' w':=hW.tr.Aa (by grind);have ajQ:ez c Z2 φ' w' (e2.B root) ks outs:=hW.inv.1.wide λb hb=>hZ2 b (hW.sub b hb);have ⟨e3,jQ,h3,hφ3,hX,hK6⟩:=X3 G.sU hf hm hr ht (λb=>Iff.rfl) (X:=λb=>(a.eval (.tmp x)).ownBlock=some b) (λt gl QH hb=>G.box t gl QH hb) (λf o b ho hk hb=>G.fJ f o b ho hk hb) xj hW.jU ajQ hK5;have vS:Trans Z e.φ w φ' w':=by have t2:Trans Z e2.φ w φ' w':=xj.Aa λb hb=>hb.elim (afi b) (G.In b);rw [G.φ] at t2;exact x1.tr.trans t2
  subst hφ3;exact V7 h3 hd1 hd2 hyd G.In fQ dI (by grind) vS hK6
def Rv (hG:Good P c){is:List Nat}{rest:List Nat}: ∀{os:List Oper} {e:Env} {st:St} {a:Act} {w:World},is.map (ops[·]?)=os.map some->bC c Z e st a w->DN c ops.toList os st K=some r-> ∀{φ0:Ph} {w0:World},Trans Z φ0 w0 e.φ w->(∀a' w',Out c Z K r φ0 w0 a' w'->wpOps P ops Q rest a' w')->wpOps P ops Q (is++rest) a w:=by
 induction is with
 |nil=>
  intro os e st a w hm h hK φ0 w0 ht hQ;cases os with
  |nil=>exact hQ a w ⟨e,st,h,ht,hK⟩
  |cons=>simp at hm
 |cons i is ih=>
  intro os e st a w hm h hK φ0 w0 ht hQ;cases os with
  |nil=>simp at hm
  |cons o os=>simp at hm;refine wpOp_mono ?_ (VY hG hm.1 h hK);rintro a' w' ⟨e2,cj,h1,h2,h3⟩;exact ih hm.2 h1 h3 (ht.trans h2) hQ
structure anu (c:Ctx) (l pre:List Oper) (f:Nat) (aJ:List Operand) (h:Nat) (x:Operand) (o1 o2:Oper) (post:List Oper):Prop where
 eq:l=pre++o1::o2::post
 is: ∃(cs:Array Operand) (cl:Call) (x' y d:Nat),cs.toList=aJ/\o1.op= .makeFunc (.func f) #[] cs/\o2.op= .call cl/\cl.callee= .value (.func h)/\cl.args.toList=[.tmp x',.tmp y]/\x= .tmp x'/\o1.dst=some y/\o2.dst=some d/\c.Oo h=true/\x'≠y/\d≠y/\y<c.n
def T7: ∀{l pre ajR:List Oper} {f:Nat} {aJ:List Operand} {h:Nat} {x:Operand} {o1 o2:Oper} {post:List Oper},GO c pre l=some (ajR,f,aJ,h,x,o1,o2,post)->anu c (pre.reverse++l) ajR f aJ h x o1 o2 post:=by
 intro l;induction l with
 |nil=>grind [GO]
 |cons p1 l ih=>
  intro pre ajR f aJ h x o1 o2 post hd;cases l with
  |nil=>grind [GO]
  |cons p2 r=>
   unfold GO at hd;split at hd
   .rename_i f' first cs cl h1 h2
    split at hd
    .rename_i h' x' y' d' k1 k2 k3 k4;cases hb:c.Oo h'&&ad9 y' d'&&!ad9 x' d'&&!ad6 c.n d'&&!ad9 (p2.dst.getD d') d' with
     |false=>grind
     |true=>
      simp only [hb,cond_true,ad0,ahw] at hd;have ⟨rfl,rfl,rfl,rfl,rfl,rfl,rfl,rfl⟩:=hd;simp only [bo,aea,eQ,decide_eq_true_eq,decide_eq_false_iff_not] at hb;have ⟨⟨⟨⟨q1,rfl⟩,q3⟩,q4⟩,q5⟩:=hb;have hf:first= #[]:=by apply aeU.1;simpa using k3
      subst hf;have hd2: ∃d,p2.dst=some d/\d≠y':=by
       cases hp:p2.dst with
       |none=>grind
       |some d=>grind
      have ⟨d,hd2,hd3⟩:=hd2;refine ⟨rfl,cs,cl,x',y',d,rfl,h1,h2,k1,k2,rfl,k4,hd2,q1,q3,hd3,?_⟩;all_goals grind [ajo]
    grind
   grind
def Rw: ∀{l:List Oper},I6 l=true-> ∀o∈l,o.guard=none:=by
 intro l;induction l with
 |nil=>grind
 |cons p l ih=>intro h o ho;unfold I6 at h;grind
theorem X5 (hG:Good P c)(Mq:sY P c)(id:Nat)(ops:Array Oper):Rf P c id ops:=by
 intro Z e st a w R K r Q h hK hQ;unfold aar at hK;split at hK;rotate_left
 .exact Nw (XO hG id ops) h hK hQ
 rename_i pre f aJ hh x o1 o2 post hda;obtain ⟨ol,cs,cl,x',y,d,rfl,k1,k2,k3,k4,rfl,k5,k6,k7,k8,k9,k10⟩:=T7 hda;simp at ol;cases ZE:I6 ops.toList with
 |false=>grind
 |true=>
 simp only [ZE,cond_true] at hK;have ⟨std,hdr,hK⟩:=qJ h hK;have hgd:=Rw ZE;have S2:o1.guard=none:=(by grind)
 have hg2:o2.guard=none:=(by grind)
 refine wp_region ?_;have uw:ops.size=pre.length+(post.length+2):=by rw [<-ad2,ol];simp
 have nC: ∀i,ops[i]? =(pre++o1::o2::post)[i]? :=λi=>by rw [<-ol,ahp]
 have ajS:afR ops.size=afR pre.length++(pre.length::(pre.length+1)::((afR post.length).map (· +(pre.length+2)))):=by rw [uw,alz];congr 1;rw [show post.length+2=2+post.length by omega,alz];simp [List.range_succ];intros;omega
 rw [ajS];refine Rv hG (os:=pre) ?_ hdr hK (.refl _ _ _) ?_
 .apply aga;grind
 .rintro a1 w1 ⟨e1,cz,s1,t1,qH⟩;have hw:=afg hG.fn (Mq hh k7) k1 k2 k3 k4 k5 k6 k8 k9 k10 s1 qH (P:=P) (Q:=Q);have wh:ops[pre.length]? =some o1:=by rw [nC];simp
  have hi2:ops[pre.length+1]? =some o2:=by rw [nC,aer aah];simp
  rw [wpOps_cons];unfold wpOp;simp only [wh,BY,S2,if_true];left;refine ahQ ?_ hw;intro a2 w2 hw2;rw [wpOps_cons];unfold wpOp;simp only [hi2,BY,hg2,if_true];left;refine ahQ ?_ hw2;rintro a3 w3 ⟨e3,jQ,s3,t3,DJ⟩;rw [<-alw ((afR post.length).map (· +(pre.length+2)))];refine Rv hG (os:=post) ?_ s3 DJ (t1.trans t3) ?_
  .apply aga;intro i;simp;by_cases hi:i<post.length
   .simp_all;rw [aer aah,show i+(pre.length+2)-pre.length=i+2 by omega];grind
   grind
  .intro a' w' ho;exact hQ a' w' ho
def NJ (A B:Nat):(Ma ops A B).size=ops.size:=by simp [Ma]
def JR (A B i:Nat):(Ma ops A B)[i]? =(ops[i]?).map λo=>if B=i then {o with after:=o.after.push ⟨A,.data⟩} else o:=by grind [Ma]
def Pb (A B:Nat)(tmps:Array Value):yielded (Ma ops A B) tmps=yielded ops tmps:=by funext j;unfold yielded;rw [JR];grind
def X6 {A B i:Nat}{K:Act->World->Prop}{a:Act}{w:World}(h:wpOp P (Ma ops A B) Q i K a w):wpOp P ops Q i K a w:=by
 unfold wpOp at h⊢;rw [JR,Pb] at h;cases hi:ops[i]? with
 |none=>grind
 |some o=>
  rw [hi] at h;simp at h;by_cases hb:B=i
  .rw [if_pos hb] at h;exact h
  grind
def T8 {A B i:Nat}{listed:Array Bool}:i∈sh .any (Ma ops A B) listed↔i∈sh .any ops listed/\(i=B->listed.getD A false=true):=by
 unfold sh;rw [NJ];simp only [List.mem_filter,List.mem_range,JR];cases hi:ops[i]? with
 |none=>simp
 |some o=>
  by_cases hb:B=i
  .grind [Array.all_push,afa]
  grind
def Ahd (A B:Nat):Bool->List Nat->Prop
 |_,[]=>True
 |la,i::r=>(i=B->la=true)/\Ahd A B (la||decide (i=A)) r
theorem JS (A B:Nat): ∀L,Ahd A B true L
 |[]=>trivial
 |i::r=>⟨λ_=>rfl,by simpa using JS A B r⟩
def abQ {A B:Nat}(h:A≠B): ∀L,Ahd A B false L\/Ahd B A false L
 |[]=> .inl trivial
 |i::r=>by
  by_cases ha:i=A
  .subst ha;exact .inl ⟨λe=>absurd e h,by grind [JS]⟩
  .by_cases hb:i=B
   .exact .inr ⟨λe=>absurd e ha,by grind [JS]⟩
   .rcases abQ h r with h1|h1
    .exact .inl ⟨λe=>absurd e hb,by grind⟩
    .exact .inr ⟨λe=>absurd e ha,by grind⟩
def sZ (ops:Array Oper):List (Nat×Nat)->Array Oper
 |[]=>ops
 |p::E=>Ma (sZ ops E) p.1 p.2
def CR: ∀E,(sZ ops E).size=ops.size
 |[]=>rfl
 |p::E=>by rw [sZ,NJ,CR E]
theorem JT {i:Nat}{K:Act->World->Prop}{a:Act}{w:World}: ∀E,wpOp P (sZ ops E) Q i K a w->wpOp P ops Q i K a w
 |[],h=>h
 |_::E,h=>JT E (X6 h)
theorem Ab {i:Nat}{listed:Array Bool}: ∀E,i∈sh .any (sZ ops E) listed↔i∈sh .any ops listed/\ ∀p∈E,i=p.2->listed.getD p.1 false=true
 |[]=>by simp [sZ]
 |p::E=>by rw [sZ,T8,Ab E,List.forall_mem_cons];grind
def T9 {E:List (Nat×Nat)}: ∀(fuel t:Nat) (listed:Array Bool) (a:Act) (w:World),(∀p∈E,p.1<listed.size)->wpAny P .any (sZ ops E) Q fuel listed a w-> (∀p∈E,Ahd p.1 p.2 (listed.getD p.1 false) (adZ .any ops fuel t listed []))->wpOps P ops Q (adZ .any ops fuel t listed []) a w:=by
 intro fuel;induction fuel with
 |zero=>intro t listed a w _ h _;simpa [adZ,wpOps] using h.2
 |succ fuel ih=>
  intro t listed a w hs h hA;have ⟨h₀,h₁⟩:=h;change wpOps P ops Q (match (sh .any ops listed)[t%(sh .any ops listed).length]? with
   |some i=>adZ .any ops fuel (t/(sh .any ops listed).length) (listed.setIfInBounds i true) [i]
   |none=>[].reverse) a w
  change∀p∈E,Ahd p.1 p.2 (listed.getD p.1 false) (match (sh .any ops listed)[t%(sh .any ops listed).length]? with
   |some i=>adZ .any ops fuel (t/(sh .any ops listed).length) (listed.setIfInBounds i true) [i]
   |none=>[].reverse) at hA
  cases hi:(sh .any ops listed)[t%(sh .any ops listed).length]? with
  |none=>
   have aeJ:sh .any ops listed=[]:=by
    cases hr:sh .any ops listed with
    |nil=>rfl
    |cons x xs=>grind [Nat.mod_lt]
   have auu:sh .any (sZ ops E) listed=[]:=by
    cases hr:sh .any (sZ ops E) listed with
    |nil=>rfl
    |cons x xs=>
     have:x∈sh .any (sZ ops E) listed:=by rw [hr];simp
     grind [Ab]
   grind [wpOps]
  |some i=>
   rw [hi] at hA;simp only [] at hA⊢;rw [linearise_go_acc,List.reverse_singleton,List.singleton_append] at hA⊢;have Eg:=(Ab E).2 ⟨List.mem_of_getElem? hi,λp hp=>(hA p hp).1⟩;refine wpOp_mono (λa w hw=>ih _ _ a w (by grind) hw λp hp=> ?_) (by grind [JT]);have hg:(listed.setIfInBounds i true).getD p.1 false=(listed.getD p.1 false||decide (i=p.1)):=by
    rw [ae3,ae3,Array.getElem?_setIfInBounds];by_cases hia:i=p.1
    .grind
    .simp [hia]
   rw [hg];exact (hA p hp).2
def JU {c:Ctx}(hG:Good P c)(Pc:P.follows .mixedOrders=true)(Mq:sY P c):Rg P c:=by
 refine ⟨(by grind [X5]),?_,?_⟩
 .intro id ops l hd hp Z e st a w R K r Q h hK hQ;refine ahR ?_ (wp_region_any Pc (Ru hG hd hp h hK));intro x a' w' hx;cases x<;>first|exact hQ a' w' hx|exact hx.elim
 .intro id ops k l Z e st a w R _ K r Q h hK hQ;refine ahR (Q:=oq λa' w'=>Out c Z K r e.φ w a' w') ?_ (wp_region_draw λt=> ?_)
  .intro x a' w' hx;cases x<;>first|exact hQ a' w' hx|exact hx.elim
  simp_all;have leaf: ∀(E:List (Nat×Nat)) (l:List Nat),(∀p∈E,p.1<ops.size)->aat c (sZ ops E) l st K=some r->(∀p∈E,Ahd p.1 p.2 false (adZ .any ops ops.size t (AI ops.size false) []))-> wpOps P ops (oq λa' w'=>Out c Z K r e.φ w a' w') (adZ .any ops ops.size t (AI ops.size false) []) a {w with drawn:=w.drawn+1}:=by
   intro E l hE hK hA;unfold aat at hK;obtain ⟨hd,hK⟩:=ob hK;split at hK
   .rename_i l1 hp;have w1:=Ru hG hd hp h hK;rw [CR] at w1;exact T9 ops.size t _ a _ (by grind) w1 (λp hp=>by simpa [hE p hp] using hA p hp)
   .cases hK
  have key: ∀(k:Nat) (E:List (Nat×Nat)) (l:List Nat),(∀p∈E,p.1<ops.size)->I7 c st K k (sZ ops E) l=some r->(∀p∈E,Ahd p.1 p.2 false (adZ .any ops ops.size t (AI ops.size false) []))-> wpOps P ops (oq λa' w'=>Out c Z K r e.φ w a' w') (adZ .any ops ops.size t (AI ops.size false) []) a {w with drawn:=w.drawn+1}:=by
   intro k;induction k with
   |zero=>intro E l _ hK;cases hK
   |succ k ih=>
    intro E l hE hK hA;simp only [I7] at hK;cases hb:ad9 l.length (sZ ops E).toList.length with
    |true=>grind
    |false=>
     simp only [hb,cond_false] at hK;split at hK
     .rename_i o1 o2 A B ht;have ⟨q1,q2,q3⟩:=TV ht;have uw:(sZ ops E).toList.length=ops.size:=by rw [ad2,CR]
      have ⟨k1,k2⟩:=XP hK;rcases abQ q1 (adZ .any ops ops.size t (AI ops.size false) []) with ho|ho
      .exact ih ((A,B)::E) o1 (by grind) k1 (by grind)
      .exact ih ((B,A)::E) o2 (by grind) k2 (by grind)
     .cases hK
  exact key k [] l aaS hK aaS
def s7 {i:Nat}{rest:List Nat}{v:Value}(hi:ops[i]? =some o)(hg:o.guard=none)(bF:(execOp a.eval o).run P w= .ok (.value v) w')(h:wpOps P ops Q rest (a.put o.dst v) w'):wpOps P ops Q (i::rest) a w:=by simp_all [wpOps_cons,wpOp,BY,if_true,ahP,afA]
structure ai (o:Oper) (d:Nat) (op:Op):Prop where
 dst:o.dst=some d
 op:o.op=op
 guard:o.guard=none
def ajT {key:Nat->Nat} {φ:Ph}{size:Nat}{v:Value}{xs:List MV}(iu:ni φ w)(fj:0<size)(hx:il key φ [v] (.list xs))(hw:rU size xs=true): ∃news,Src (mT key φ) w size v xs news:=by
 generalize hv:[v]=vs at hx;cases hx with
 |list ad cap _ aQ off Fe f g1 g2 g3 g4 g5=>
 simp at hv;have hes: ∀i,i<xs.length->(f i).length=size:=by intro i hi;rw [(g5 i hi).width];exact DY hw _ (ai3 hi)
 have ⟨cs,h1,h2⟩:=Jk hes g5;refine ⟨cs,h1,ad,cap,hv,?_,?_⟩
 .intro hn;simp_all
 .intro x hx j u hj;have Mf:j<cs.length:=(by grind)
  rw [h1.length] at Mf;have QQ:0<xs.length:=by
   cases xs with
   |nil=>simp at Mf
   |cons y ys=>simp
  have hq:j/size<xs.length:=(Nat.div_lt_iff_lt_mul fj).2 Mf;have hm:=Nat.mod_lt j fj;have hj2:j=j/size *size+j%size:=by rw [Nat.mul_comm];exact (Nat.div_add_mod j size).symm
  have e1:=h2 (j/size) (j%size) hq hm;rw [<-hj2,hj] at e1;have aaT:Fe=size:=by rw [<-g3 0 QQ,hes 0 QQ]
  have e2:=g4 (j/size) (j%size) hq (by rw [aaT];exact hm);rw [<-e1,aaT,Nat.add_assoc,<-hj2] at e2;have:=iu _ _ _ e2;grind [aei]
def X7 {t t':TypeId}{el:TypeId}{x:Operand}{ad:Option Addr}{n cap:Nat}(hu:P.underlying t=some (.slice el))(ho:o.op= .binOp .eql t x (.const (.slice none 0 0)) t')(hx:a.eval x= .slice ad n cap): (execOp a.eval o).run P w= .ok (.value (.bool ad.isNone)) w:=by
 have he:a.eval (.const (.slice none 0 0))= .slice none 0 0:=rfl;have ol: ∀d:Nat,(Op.equalIn (d+1) t (.slice ad n cap) (.slice none 0 0)).run P w= .ok ad.isNone w:=by intro d;cases ad<;>simp [Op.equalIn,run_underlying hu]
 have hb:Go.binOp .eql t (.slice ad n cap) (.slice none 0 0)=(do pure (.bool (<-Op.equal t (.slice ad n cap) (.slice none 0 0)))):=rfl;have hg: ∀(x y:Operand),(eqGuard .eql t x y (.slice ad n cap) (.slice none 0 0)).run P w= .ok () w:=λ_ _=>rfl;have h2:(Op.equal t (.slice ad n cap) (.slice none 0 0)).run P w= .ok ad.isNone w:=ol 9999;simp_all [execOp]
theorem wE {f:FuncId}{fn:Func}{t:TypeId}{I E:TI}{i0 i1 i2 i3:Nat}{oA oB oC oD oE oF oG oH:Oper}{xs:List MV}(hT:fw P c.ti)(hI:c.tv t=some I)(hL:I.GN=true)(hE:c.tv I.elem=some E)(ru:1<=E.bytes)(FB:c.lq (c.key f)=I.elem)(hg:c.bK (c.key f)=false)
 (hf:P.funcs[f]? =some fn) (z8:(fn.name== "runtime.NumGoroutine")=false) (hn:fn.ntmps=8) (hr:fn.results= #[.tmp 2])
 (mG:fn.body=some (.seq (.region i0 #[oA] false) (.seq (.seq (.region i1 #[oB,oC] false) (.cond (.tmp 4) (.seq (.region i2 #[oD] false) .ret) .skip)) (.seq (.region i3 #[oE,oF,oG,oH] false) .ret))))
 (hA:ai oA 2 (.assign (.const (.slice none 0 0)))) (hB:ai oB 3 (.move (.tmp 0))) (hC:ai oC 4 (.binOp .eql t (.tmp 3) (.const (.slice none 0 0)) t)) (hD:ai oD 2 (.assign (.const (.slice none 0 0))))
 (hEo:ai oE 5 (.buildSlice t 0 #[])) (hF:ai oF 6 (.move (.tmp 0))) (hG:ai oG 7 (.call {callee:= .builtin .append,args:= #[.tmp 5,.tmp 6],argTypes:= #[t,t]})) (hH:ai oH 2 (.assign (.tmp 7)))
 (hw:rU E.size xs=true) (oa:xs.length *E.bytes<=2^46):dJ P c f [.list xs] (.fresh xs):=by
 obtain ⟨hIt,SX⟩:=aM hI;obtain ⟨mn,nR⟩:=aM hE;obtain ⟨hu,E2,DI,_,fj⟩:=TI.kK (hT t I hIt) hL;rw [mn] at DI;cases DI;intro φ W Z vs hz di iu;simp only [cv,hg,AS,if_false] at di;obtain ⟨v,u,rfl,⟨_,hx⟩,hu0⟩:=di;have hu0:u=[]:=hu0;subst hu0;obtain ⟨ad,cap,hv,CL,hnn⟩: ∃ad cap,v= .slice ad xs.length cap/\xs.length<=cap/\(0<xs.length->ad≠none):=by
  have SZ:=hx;generalize DH:[v]=vs at SZ;cases SZ with
  |list ad cap _ aQ off Fe f g1 g2 g3 g4 g5=>grind
 have bF:(callFunc f [v].toArray).run P W= .ok (.enter f #[v]) W:=by
  have Ik: ¬fn.name= "runtime.NumGoroutine" :=by simpa using z8
  simp [callFunc,hf,Ik,mG]
 unfold da;rw [bF];refine calls_of_wp hf mG ?_;rw [hn];have ha0:({tmps:= #[v]++AI (8-(#[v]:Array Value).size) undef,defers:=[]}:Act)={tmps:= #[v,undef,undef,undef,undef,undef,undef,undef],defers:=[]}:=rfl;rw [ha0];have ar2:afR (#[oA]:Array Oper).size=[0]:=rfl;have ar3:afR (#[oB,oC]:Array Oper).size=[0,1]:=rfl;have ar4:afR (#[oE,oF,oG,oH]:Array Oper).size=[0,1,2,3]:=rfl;have aw4:afR (#[oD]:Array Oper).size=[0]:=rfl;have fin: ∀(a:Act) (W':World) (v':Value) (cells:List Value),a.defers=[]->a.tmps.getD 2 undef=v'->(∃φ',Trans Z φ W φ' W'/\ni φ' W'/\fA c Z φ' W' (c.key f) v' (.fresh xs))-> bodyPost P fn (λx Fo=> ∃v,x= .returned v/\ ∃φ',Trans Z φ W φ' Fo/\ni φ' Fo/\fA c Z φ' Fo (c.key f) v (.fresh xs)) .ret a W':=by
  intro a W' v' cells hd h2 h3;refine ⟨hd,v',?_,v',rfl,h3⟩;have SW:a.tmps[2]?.getD undef=v':=by simpa using h2
  simp [results,hr,SW]
 refine wp_seq (wp_region ?_);rw [ar2];refine s7 (o:=oA) rfl hA.guard (v:= .slice none 0 0) (w':=W) (by simp [execOp,hA.op];rfl) ?_;rw [hA.dst];refine wp_seq (wp_seq (wp_region ?_));rw [ar3];refine s7 (o:=oB) rfl hB.guard (v:=v) (w':=W) (by simp [execOp,hB.op];rfl) ?_;rw [hB.dst];refine s7 (o:=oC) rfl hC.guard (v:= .bool ad.isNone) (w':=W) (X7 hu hC.op (by rw [<-hv];rfl)) ?_;rw [hC.dst];refine wp_cond (t:=ad.isNone) rfl ?_;cases had:ad.isNone with
 |true=>
  have had:ad=none:=by simpa using had
  have hxs:xs=[]:=by
   cases xs with
   |nil=>rfl
   |cons y ys=>grind
  refine wp_seq (wp_region ?_);refine s7 (o:=oD) rfl hD.guard (v:= .slice none 0 0) (w':=W) (by simp [execOp,hD.op];rfl) ?_;rw [hD.dst];refine wp_ret ?_;refine fin _ W (.slice none 0 0) [] rfl rfl ⟨φ,.refl _ _ _,iu,?_⟩;show bU c (bn.plain Z) (mT c.key φ) W _ ⟨c.lq (c.key f),false,xs⟩;rw [FB,hxs];exact ⟨E,[],mn,nR,⟨aaS,.inl ⟨rfl,rfl⟩⟩,rfl,(by grind [aeb])⟩
 |false=>
  simp only [AS,if_false];refine wp_skip ?_;refine wp_seq (wp_region ?_);rw [ar4];have anw:=ON (P:=P) (c:=c) (w:=W) (t:=t) (I:=I) (vs:=[]) (parts:= #[]) hu mn nR fj hT aaS aaS rfl;simp only [List.length_nil,List.flatMap_nil] at anw;refine s7 (o:=oE) rfl hEo.guard (v:= .slice (some ⟨W.heap.size,0,none⟩) 0 0) (w':=W.alloc (.cells #[] I.elem)) (by simp [execOp,hEo.op,anw]) ?_;rw [hEo.dst];refine s7 (o:=oF) rfl hF.guard (v:=v) (w':=W.alloc (.cells #[] I.elem)) (by simp [execOp,hF.op];rfl) ?_;rw [hF.dst];obtain ⟨news,zX⟩:=ajT iu fj hx hw;have S2:cq W (W.alloc (.cells #[] I.elem)):= .alloc W _ _;have anx:Src (mT c.key φ) (W.alloc (.cells #[] I.elem)) E.size v xs news:=by obtain ⟨ad',aaI,q1,q2,q3⟩:=zX.val;exact ⟨zX.els,ad',aaI,q1,q2,λx hx j u hj=>S2.cell (q3 x hx j u hj)⟩
  have dI:(W.alloc (.cells #[] I.elem)).ownsRow 0 I.elem E.size (.slice (some ⟨W.heap.size,0,none⟩) 0 0) 0 []:=⟨aaS,.inr ⟨W.heap.size,0, #[],rfl,aef _,fL W _,ad1 _,aef _,aaS,aaS⟩⟩
  obtain ⟨v',W',NI,wo⟩:=CM (P:=P) (c:=c) (ty:=oG.type) hu mn nR fj hT ru dI (anx.apx hu) (by grind);refine s7 (o:=oG) rfl hG.guard (v:=v') (w':=W') (by
   have e1: ∀(a:Act),a.eval (.tmp 5)= .slice (some ⟨W.heap.size,0,none⟩) 0 0->a.eval (.tmp 6)=v->(execOp a.eval oG).run P (W.alloc (.cells #[] I.elem))= .ok (.value v') W':=by intro a h5 h6;simp [execOp,hG.op,resolve,invoke,builtin,h5,h6,NI]
   exact e1 _ rfl rfl) ?_
  rw [hG.dst];refine s7 (o:=oH) rfl hH.guard (v:=v') (w':=W') (by simp [execOp,hH.op];rfl) ?_;rw [hH.dst];refine wp_ret ?_;refine fin _ W' v' [] rfl rfl ?_;have uw:W.heap.size<=W'.heap.size:=aez S2.size wo.size;have hold: ∀b,b<W.heap.size->W'.heap[b]? =W.heap[b]? :=by intro b hb;rw [wo.qo b (alb hb S2.size) (by grind [aeb])];exact S2.qo b hb
  refine ⟨φ,⟨.refl _,λb _ hb=>hold b hb,λ_ _ _=>rfl,uw,S2.rest.trans wo.rest⟩,?_,?_⟩
  .intro b o u hbo;have h1:=iu b o u hbo;rw [aeg (hold b (No W _ h1))];exact h1
  .show bU c (bn.plain Z) (mT c.key φ) W' v' ⟨c.lq (c.key f),false,xs⟩;rw [FB];refine ⟨E,news,mn,nR,by grind [wo.own],zX.els,λaQ hb=> ?_⟩;have n9:W.heap.size<=aQ:=by
    rcases wo.place with h1|h1
    .grind [aeb]
    .grind [S2.size]
   refine ⟨hz aQ n9,λoff u hu=> ?_,λhc=>hc.elim⟩;have:=No W _ (iu _ _ _ hu);grind
end
structure db (P:Program) (c:Ctx) (g:Nat->List MV->Option MV):Prop where
 all: ∀f ms r,g (c.key f) ms=some r->dJ P c f ms r
abbrev aK (n:Nat)(F:List MV->Option MV)(g:Nat->List MV->Option MV):Nat->List MV->Option MV:=λk ms=>match ad9 k n with|true=>F ms|false=>g k ms
theorem db.add {P:Program}{c:Ctx}{g:Nat->List MV->Option MV}{n:Nat}{F:List MV->Option MV}(h:db P c g)(hF: ∀f ms r,c.key f=n->F ms=some r->dJ P c f ms r):db P c (aK n F g):=by
 refine ⟨λf ms r hr=> ?_⟩;unfold aK at hr;cases hk:ad9 (c.key f) n with
 |true=>simp_all
 |false=>simp only [hk] at hr;exact h.all f ms r hr
structure Eh (c c':Ctx):Prop where
 ti:c'.ti=c.ti
 key:c'.key=c.key
 bK:c'.bK=c.bK
 fresh:c'.fresh=c.fresh
 lq:c'.lq=c.lq
 fk:c'.fk=c.fk
 mt:c'.mt=c.mt
 sig:c'.sig=c.sig
 Oo:c'.Oo=c.Oo
def bU.jR {c c':Ctx}(h:c'.ti=c.ti){Z:bn}{e:Env}{w:World}{v:Value}{o:n8}(hs:bU c Z e w v o):bU c' Z e w v o:=by have ⟨I,cells,h1,h2⟩:=hs.row;exact ⟨I,cells,by grind,h2⟩
def fA.jR {c c':Ctx}(h:Eh c c'){Z:Nat->Prop} {φ:Ph}{w:World}{k:Nat}{v:Value}{r:MV}(hs:fA c Z φ w k v r):fA c' Z φ w k v r:=by
 cases r<;>simp only [fA,h.key,h.lq] at hs⊢ <;>first|exact hs|exact hs.jR h.ti|skip
 rename_i ms;cases ms with
 |nil=>grind [Ml,h.key]
 |cons m r=>
  cases m<;>simp only [Ml,h.key,h.lq] at hs⊢ <;>first|exact hs|skip
  have ⟨v0,us,h1,h2,h3⟩:=hs;exact ⟨v0,us,h1,h2.jR h.ti,h3⟩
def ez.jR {c c':Ctx}(h:Eh c c'){Z:Nat->Prop} {φ:Ph}{w:World}{aQ:Nat}{ks:List LK}{ls:List MV}(hs:ez c Z φ w aQ ks ls):ez c' Z φ w aQ ks ls:=by have ⟨cs,m,E,arr,T,h1,h2,h3,h4,h5,h6,h7⟩:=hs;refine ⟨cs,m,E,arr,T,h1,h2,h3,h4,by grind [h.key],λf o ho=>⟨?_,(h6 f o ho).2⟩,h7⟩;rw [h.key];exact (h6 f o ho).1.jR h.ti
def sQ.jR {c c':Ctx}(h:Eh c c'){Z:Nat->Prop} {φ:Ph}{w:World}{k:Nat}{vs:List Value}{v:Value}{r:MV}(hs:sQ c Z φ w k vs v r):sQ c' Z φ w k vs v r:=by
 cases r<;>simp only [sQ] at hs⊢ <;>first|exact hs.jR h|skip
 have ⟨h1,pos,ks,ko,aQ,off,h2,h3,h4⟩:=hs;exact ⟨h1.jR h,pos,ks,ko,aQ,off,by grind [h.sig],h3,h4.jR h⟩
def cv.jR {c c':Ctx}(h:Eh c c'){Z:Nat->Prop} {φ:Ph}{w:World}{k:Nat}{vs:List Value}{ms:List MV}(hs:cv c' Z φ w k vs ms):cv c Z φ w k vs ms:=by
 unfold cv at hs⊢;rw [h.bK] at hs;split
 .rename_i hg;rw [if_pos hg] at hs;rcases hs with ⟨v0,v1,v2,xs,m1,ys,h1,h2,h3,h4,h5,h6⟩|⟨v0,v1,v2,xs,m1,m2,h1,h2,h3,h4,h5,h6⟩|⟨pos,ks,ko,off,ls,aQ,h1,h2,h3,h4,h5⟩
  .rw [h.key,h.lq] at h3 h5;rw [h.key] at h4;exact .inl ⟨v0,v1,v2,xs,m1,ys,h1,h2,h3.jR h.ti.symm,h4,h5.jR h.ti.symm,h6⟩
  .rw [h.key,h.lq] at h4;rw [h.key] at h5 h6;exact .inr (.inl ⟨v0,v1,v2,xs,m1,m2,h1,h2,h3,h4.jR h.ti.symm,h5,h6⟩)
  .refine .inr (.inr ⟨pos,ks,ko,off,ls,aQ,by grind [h.sig],h2,h3,by grind [h.key],?_⟩);have ⟨cs,m,E,arr,T,k1,k2,k3,k4,k5,k6,k7⟩:=h5;refine ⟨cs,m,E,arr,T,k1,k2,k3,k4,by grind [h.key],λf o ho=>⟨?_,(k6 f o ho).2⟩,k7⟩;rw [<-h.key];exact (k6 f o ho).1.jR h.ti.symm
 simp_all [if_neg,h.key]
theorem da.mono {P:Program}{f:FuncId}{args:Array Value}{w:World} {R R':Value->World->Prop}(hc:da P f args w R)(h: ∀v w',R v w'->R' v w'):da P f args w R':=by grind [da,Calls.mono,absurd]
def dJ.jR {P:Program} {c c':Ctx}{f:Nat}{ms:List MV}{r:MV}(h:Eh c c')(hs:dJ P c f ms r):dJ P c' f ms r:=by intro φ w Z vs hz ha hi;rw [h.key] at ha;refine (hs φ w Z vs hz (ha.jR h) hi).mono ?_;rintro v w' ⟨φ',h1,h2,h3⟩;rw [h.key];exact ⟨φ',h1,h2,h3.jR h⟩
theorem Eh.symm {c c':Ctx}(h:Eh c c'):Eh c' c:=⟨h.ti.symm,h.key.symm,h.bK.symm,h.fresh.symm,h.lq.symm,h.fk.symm,h.mt.symm,h.sig.symm,h.Oo.symm⟩
def xH.jR {P:Program} {c c':Ctx}(h:Eh c c'){g:Nat}{lb:Array Value}{S:Type}{Inv:S->(Nat->Prop)->Ph->World->Prop}{step:S->MV->Option (Bool×S)}(hp:xH P c' g lb Inv step):xH P c g lb Inv step:=⟨λh1 h2 h3 h4 h5=>hp.call h1 h2 h3 (by grind [h.key]) h5,hp.frame,hp.mono⟩
def sY.jR {P:Program} {c c':Ctx}(h:Eh c c')(hd:sY P c):sY P c':=by intro f hf;rw [h.Oo] at hf;have hx:=hd f hf;refine ⟨?_⟩;intro S Inv step g lb hp v0 xs ys w Z0 φ0 s0 s' h1 h2 h3 h4 h5 h6 h7;rw [h.key,h.lq] at h2;refine (hx.run (hp.jR h) h1 (h2.jR h.ti.symm) h3 h4 h5 h6 h7).mono ?_;rintro v W ⟨Z,φ,hW,hF,hb⟩;refine ⟨Z,φ,⟨hW.inv,hW.new,hW.sub,hW.jU,hW.tr,hW.free⟩,?_,hb⟩;rw [h.key,h.lq];exact hF.jR h.ti
def ou (c:Ctx)(n:Nat)(fn:Func)(aJ:List (List Kd)):Bool:=
 !(fn.name== "runtime.NumGoroutine")&&ad9 c.n fn.ntmps&&ad6 (fn.params.size+aJ.length) fn.ntmps&&!c.bK n
def Ac (c:Ctx)(n:Nat)(fn:Func):Option Nat->Bool
 |none=>true
 |some ty=>ad9 ty (c.lq n)&&(ad6 1 fn.results.toList.length&&(match c.tv ty with|some _=>true|none=>false))
def X8 {c:Ctx}{n:Nat}{fn:Func}{fresh:Option Nat}(h:Ac c n fn fresh=true): ∀ty,fresh=some ty->ty=c.lq n/\1<=fn.results.toList.length/\ ∃I,c.tv ty=some I:=by rintro ty rfl;simp only [Ac,bo] at h;have ⟨h1,h2,h3⟩:=h;refine ⟨AT h1,IT h2,?_⟩;grind
def db.body {P:Program} {c c':Ctx}{g:Nat->List MV->Option MV}{n:Nat}{fn:Func}{aJ:List (List Kd)}(h:db P c g)(hl:Eh c c')(hgg:c'.g=g)(lC:fw P c.ti)(ol:QK P c.ti)(Qj: ∀t k,c.fk t=some k->P.underlying t=some (.float k))(XK:z1 P c)(Pc:P.follows .mixedOrders=true)(Mq:sY P c)(hf:P.funcs[n]? =some fn)(hh:ou c' n fn aJ=true)(Fs: ∀f,c.key f=f){fresh:Option Nat}(zT:Ac c' n fn fresh=true):db P c (aK n (qB c' aJ fresh fn) g):=by
 have hG:Good P c':=by
  refine ⟨by grind [hl.ti],by grind [hl.ti],λf ms r hr=> ?_,by grind [hl.fk],λt s hs=>XK t s ?_⟩
  .rw [hgg,hl.key] at hr;exact (h.all f ms r hr).jR hl
  .grind [wj,Ctx.tv,hl.mt,hl.ti]
 refine h.add (λf ms r hk hr=> ?_);rw [Fs] at hk;subst hk;simp only [ou,bo,aea] at hh;have ⟨⟨⟨h1,h2⟩,h3⟩,h4⟩:=hh;exact (ae5 hG (JU hG Pc (Mq.jR hl)) hf h1 (by simp_all) (by simp_all) (by simp_all [hl.key]) (by rw [hl.key,Fs];exact X8 zT) hr).jR hl.symm
def Hf (c:Ctx)(n:Nat)(fn:Func)(aJ:List (List Kd)):Bool:=
 !(fn.name== "runtime.NumGoroutine")&&ad9 c.n fn.ntmps&&ad6 fn.ntmps 1000000&&ad6 (fn.params.size+aJ.length) fn.ntmps&&c.bK n
def db.fnC {P:Program}{c:Ctx}{g:Nat->List MV->Option MV}{n pos:Nat}{ks ko:List LK}{fn:Func}{aJ:List (List Kd)}{F:List MV->Option MV}(h:db P c g)(lC:fw P c.ti)(ol:QK P c.ti)(Qj: ∀t k,c.fk t=some k->P.underlying t=some (.float k))(XK:z1 P c)(Pc:P.follows .mixedOrders=true)(Mq:sY P c)(hf:P.funcs[n]? =some fn)(zh:c.sig n=some (pos,ks,ko))(Fs: ∀f,c.key f=f)(hF: ∀{ms r},F ms=some r-> ∃c':Ctx,Eh c c'/\c'.g=g/\Hf c' n fn aJ=true/\DO c' aJ pos ks ko fn ms=some r):db P c (aK n F g):=by
 refine h.add (λf ms r hk hr=> ?_);rw [Fs] at hk;subst hk;have ⟨c',hl,hgg,hh,hr⟩:=hF hr;have hG:Good P c':=by
  refine ⟨by grind [hl.ti],by grind [hl.ti],λf ms r hr=> ?_,by grind [hl.fk],λt s hs=>XK t s ?_⟩
  .rw [hgg,hl.key] at hr;exact (h.all f ms r hr).jR hl
  .grind [wj,Ctx.tv,hl.mt,hl.ti]
 simp only [Hf,bo,aea] at hh;have ⟨⟨⟨⟨h1,h2⟩,SW⟩,h3⟩,h4⟩:=hh;exact (abv hG (JU hG Pc (Mq.jR hl)) hf h1 (by simp_all) (by simp_all) (by simp_all) (by simp_all [hl.key]) (by simp_all [hl.sig,hl.key]) hr).jR hl.symm
abbrev afk (n:Nat)(g:Nat->List MV->Option MV):Nat->List MV->Option MV:=λk ms=>match ad9 k n with|true=>none|false=>g k ms
structure Hg (k0:Nat) (c c':Ctx):Prop where
 ti:c'.ti=c.ti
 key:c'.key=c.key
 bK:c'.bK=c.bK
 fresh:c'.fresh=c.fresh
 lq:c'.lq=c.lq
 sig: ∀k,k≠k0->c'.sig k=c.sig k
def fA.Cj {k0:Nat} {c c':Ctx}(h:Hg k0 c c'){Z:Nat->Prop} {φ:Ph}{w:World}{k:Nat}{v:Value}{r:MV}(hs:fA c Z φ w k v r):fA c' Z φ w k v r:=by
 cases r<;>simp only [fA,h.key,h.lq] at hs⊢ <;>first|exact hs|exact hs.jR h.ti|skip
 rename_i ms;cases ms with
 |nil=>grind [Ml,h.key]
 |cons m r=>
  cases m<;>simp only [Ml,h.key,h.lq] at hs⊢ <;>first|exact hs|skip
  obtain ⟨v0,us,h1,h2,h3⟩:=hs;exact ⟨v0,us,h1,h2.jR h.ti,h3⟩
def ez.Cj {k0:Nat} {c c':Ctx}(h:Hg k0 c c'){Z:Nat->Prop} {φ:Ph}{w:World}{aQ:Nat}{ks:List LK}{ls:List MV}(hs:ez c Z φ w aQ ks ls):ez c' Z φ w aQ ks ls:=by obtain ⟨cs,m,E,arr,T,h1,h2,h3,h4,h5,h6,h7⟩:=hs;refine ⟨cs,m,E,arr,T,h1,h2,h3,h4,by grind [h.key],λf o ho=>⟨?_,(h6 f o ho).2⟩,h7⟩;rw [h.key];exact (h6 f o ho).1.jR h.ti
def sQ.Cj {k0:Nat} {c c':Ctx}(h:Hg k0 c c'){Z:Nat->Prop} {φ:Ph}{w:World}{k:Nat}(hk:k≠k0){vs:List Value}{v:Value}{r:MV}(hs:sQ c Z φ w k vs v r):sQ c' Z φ w k vs v r:=by
 cases r<;>simp only [sQ] at hs⊢ <;>first|exact hs.Cj h|skip
 obtain ⟨h1,pos,ks,ko,aQ,off,h2,h3,h4⟩:=hs;exact ⟨h1.Cj h,pos,ks,ko,aQ,off,by rw [h.sig k hk];exact h2,h3,h4.Cj h⟩
def cv.Cj {k0:Nat} {c c':Ctx}(h:Hg k0 c c'){Z:Nat->Prop} {φ:Ph}{w:World}{k:Nat}(hk:k≠k0){vs:List Value}{ms:List MV}(hs:cv c' Z φ w k vs ms):cv c Z φ w k vs ms:=by
 unfold cv at hs⊢;rw [h.bK] at hs;split
 .rename_i hg;rw [if_pos hg] at hs;rcases hs with ⟨v0,v1,v2,xs,m1,ys,h1,h2,h3,h4,h5,h6⟩|⟨v0,v1,v2,xs,m1,m2,h1,h2,h3,h4,h5,h6⟩|⟨pos,ks,ko,off,ls,aQ,h1,h2,h3,h4,h5⟩
  .rw [h.key,h.lq] at h3 h5;rw [h.key] at h4;exact .inl ⟨v0,v1,v2,xs,m1,ys,h1,h2,h3.jR h.ti.symm,h4,h5.jR h.ti.symm,h6⟩
  .rw [h.key,h.lq] at h4;rw [h.key] at h5 h6;exact .inr (.inl ⟨v0,v1,v2,xs,m1,m2,h1,h2,h3,h4.jR h.ti.symm,h5,h6⟩)
  .refine .inr (.inr ⟨pos,ks,ko,off,ls,aQ,by rw [<-h.sig k hk];exact h1,h2,h3,by grind [h.key],?_⟩);obtain ⟨cs,m,E,arr,T,k1,k2,k3,k4,k5,k6,k7⟩:=h5;refine ⟨cs,m,E,arr,T,k1,k2,k3,k4,by grind [h.key],λf o ho=>⟨?_,(k6 f o ho).2⟩,k7⟩;rw [<-h.key];exact (k6 f o ho).1.jR h.ti.symm
 simp_all [if_neg,h.key]
def dJ.Cj {P:Program}{k0:Nat} {c c':Ctx}{f:Nat}{ms:List MV}{r:MV}(h:Hg k0 c c')(hk:c.key f≠k0)(hs:dJ P c f ms r):dJ P c' f ms r:=by intro φ w Z vs hz ha hi;rw [h.key] at ha;refine (hs φ w Z vs hz (ha.Cj h hk) hi).mono ?_;rintro v w' ⟨φ',h1,h2,h3⟩;rw [h.key];exact ⟨φ',h1,h2,h3.Cj h hk⟩
def db.alt {P:Program}{k0:Nat} {c c':Ctx}{g:Nat->List MV->Option MV}(h:db P c g)(hl:Hg k0 c c'):db P c' (afk k0 g):=by refine ⟨λf ms r hr=> ?_⟩;rw [hl.key] at hr;unfold afk at hr;obtain ⟨hk,hr⟩:=oz hr;refine (h.all f ms r hr).Cj hl (λhe=> ?_);simp_all
def lp (σ:Nat->Value)(d:Nat)(v:Value):Nat->Value:=λt=>bif ad9 t d then v else σ t
def ev (σ:Nat->Value):Operand->Value
 | .tmp t=>σ t
 | .const v=>v
 | .global g=> .pointer (some ⟨g,0,none⟩)
 | .func f=> .func (.func f) #[] #[]
structure Tm (a:Act) (n:Nat) (σ:Nat->Value):Prop where
 defers:a.defers=[]
 size:a.tmps.size=n
 get: ∀t,a.tmps.getD t undef=σ t
theorem Tm.eval {a:Act}{n:Nat} {σ:Nat->Value}(h:Tm a n σ):a.eval=ev σ:=by
 funext x;cases x with
 |tmp t=>exact h.get t
 |_=>rfl
theorem Tm.put {a:Act}{n:Nat} {σ:Nat->Value}(h:Tm a n σ){d:Nat}(hd:d<n)(v:Value):Tm (a.put (some d) v) n (lp σ d v):=by
 refine ⟨h.defers,by simp [Act.put,h.size],λt=> ?_⟩;show (a.tmps.setIfInBounds d v).getD t undef=bif ad9 t d then v else σ t;by_cases ht:t=d
 .subst ht;have:t<a.tmps.size:=by rw [h.size];exact hd
  simp [this]
 .have hb:ad9 t d=false:=by
   cases hq:ad9 t d with
   |false=>rfl
   |true=>simp_all
  have:=h.get t;simp_all [ae3,Array.getElem?_setIfInBounds_ne,Ne.symm,cond_false]
theorem tm3 (v0 v1 v2:Value)(k:Nat):Tm {tmps:= #[v0,v1,v2]++AI k undef,defers:=[]} (k+3) (lp (lp (lp (λ_=>undef) 0 v0) 1 v1) 2 v2):=by
 refine ⟨rfl,by simp [aja],λq=> ?_⟩;by_cases h0:q=0
 .subst h0;show (#[v0,v1,v2]++AI k undef).getD 0 undef=v0;simp [ad4]
 by_cases h1:q=1
 .subst h1;show (#[v0,v1,v2]++AI k undef).getD 1 undef=v1;simp [ad4]
 by_cases h2:q=2
 .subst h2;show (#[v0,v1,v2]++AI k undef).getD 2 undef=v2;simp [ad4]
 have e: ∀{x y:Nat},x≠y->ad9 x y=false:=(by grind [ad9,absurd,AT])
 simp only [lp,e h0,e h1,e h2,cond_false];simp [ad4,aiR,show¬q<3 by omega];grind
section
variable {P:Program}{Q:Exit->Act->World->Prop}{ops:Array Oper}{o:Oper}{a:Act}{w w':World}{n:Nat}{σ:Nat->Value}
def Tm.step {i d:Nat}{op:Op}{rest:List Nat}{v:Value}(al:Tm a n σ)(hi:ops[i]? =some o)(ho:ai o d op)(hd:d<n)(bF:(execOp (ev σ) o).run P w= .ok (.value v) w')(h: ∀a',Tm a' n (lp σ d v)->wpOps P ops Q rest a' w'):wpOps P ops Q (i::rest) a w:=by refine s7 hi ho.guard (v:=v) (w':=w') (by grind [al.eval]) ?_;rw [ho.dst];exact h _ (al.put hd v)
def j6 {d:Nat}{x:Operand}{e:Operand->Value}(ho:ai o d (.move x))(w:World):(execOp e o).run P w= .ok (.value (e x)) w:=by simp [execOp,ho.op]
def Bg {d:Nat}{x:Operand}{e:Operand->Value}(ho:ai o d (.assign x))(w:World):(execOp e o).run P w= .ok (.value (e x)) w:=by simp [execOp,ho.op]
def Tm.st {i d:Nat}{op:Op}{rest:List Nat}{v:Value}(al:Tm a n σ)(ho:ai o d op)(bF: ∀w,(execOp (ev σ) o).run P w= .ok (.value v) w)(h: ∀a',Tm a' n (lp σ d v)->wpOps P ops Q rest a' w)(hi:ops[i]? =some o:=by rfl) (hd:d<n:=by decide):wpOps P ops Q (i::rest) a w:=al.step hi ho hd (bF _) h
def Tm.cz {i d:Nat}{op:Op}{rest:List Nat}{v:Value}(al:Tm a n σ)(ho:ai o d op)(bF:(execOp (ev σ) o).run P w= .ok (.value v) w')(h: ∀a',Tm a' n (lp σ d v)->wpOps P ops Q rest a' w')(hi:ops[i]? =some o:=by rfl) (hd:d<n:=by decide):wpOps P ops Q (i::rest) a w:=al.step hi ho hd bF h
theorem Tm.mv {i d:Nat}{x:Operand}{rest:List Nat}{v:Value}(al:Tm a n σ)(ho:ai o d (.move x))(h: ∀a',Tm a' n (lp σ d v)->wpOps P ops Q rest a' w)(hv:ev σ x=v:=by rfl) (hi:ops[i]? =some o:=by rfl) (hd:d<n:=by decide): wpOps P ops Q (i::rest) a w:=al.st ho (λw=>hv▸j6 ho w) h hi hd
def Tm.vd {i d:Nat}{x:Operand}{rest:List Nat}{v:Value}(al:Tm a n σ)(ho:ai o d (.assign x))(h: ∀a',Tm a' n (lp σ d v)->wpOps P ops Q rest a' w)(hv:ev σ x=v:=by rfl) (hi:ops[i]? =some o:=by rfl) (hd:d<n:=by decide): wpOps P ops Q (i::rest) a w:=al.st ho (λw=>hv▸Bg ho w) h hi hd
def mq {d:Nat}{t el:TypeId}{x:Operand}{e:Operand->Value}{ad:Option Addr}{m c:Nat}(ho:ai o d (.call {callee:= .builtin .len,args:= #[x],argTypes:= #[t]})) (hu:P.underlying t=some (.slice el)) (hx:e x= .slice ad m c) (w:World): (execOp e o).run P w= .ok (.value (.int .i64 m)) w:=by simp [execOp,ho.op,resolve,invoke,builtin,hx,Builtin.len_,goInt,run_underlying hu]
def V9 {d:Nat}{t el:TypeId}{x:Operand}{e:Operand->Value}{ad:Option Addr}{m c:Nat}(ho:ai o d (.call {callee:= .builtin .cap,args:= #[x],argTypes:= #[t]})) (hu:P.underlying t=some (.slice el)) (hx:e x= .slice ad m c) (w:World): (execOp e o).run P w= .ok (.value (.int .i64 c)) w:=by simp [execOp,ho.op,resolve,invoke,builtin,hx,Builtin.cap_,goInt,run_underlying hu]
def wF {d:Nat}{op:BinOp} {t t':TypeId}{x y:Operand}{e:Operand->Value}{k:IntKind}{p q:Int}{v:Value}(ho:ai o d (.binOp op t x y t'))(hx:e x= .int k p)(hy:e y= .int k q)(hv: ∀w:World,(Go.binOp op t (.int k p) (.int k q)).run P w= .ok v w)(w:World):(execOp e o).run P w= .ok (.value v) w:=by simp_all [eqGuard,execOp,ho.op]
def nk {d:Nat} {t t':TypeId}{x y:Operand}{e:Operand->Value}{p q:Int}(ho:ai o d (.binOp .eql t x y t'))(hx:e x= .int .i64 p)(hy:e y= .int .i64 q)(w:World): (execOp e o).run P w= .ok (.value (.bool (decide (p=q)))) w:=wF ho hx hy (λw=>by rfl) w
def Rx {d:Nat} {t t':TypeId}{x y:Operand}{e:Operand->Value}{p q:Int}(ho:ai o d (.binOp .gtr t x y t'))(hx:e x= .int .i64 p)(hy:e y= .int .i64 q)(w:World): (execOp e o).run P w= .ok (.value (.bool (decide (q<p)))) w:=wF ho hx hy (λw=>by simp [Go.binOp,Op.intCmp]) w
def ju {d:Nat} {t t':TypeId}{x y:Operand}{e:Operand->Value}{p q:Nat}(ho:ai o d (.binOp .add t x y t'))(hx:e x= .int .i64 p)(hy:e y= .int .i64 q)(hl:p+q<2^63)(w:World): (execOp e o).run P w= .ok (.value (.int .i64 ((p+q:Nat):Int))) w:=wF ho hx hy (λw=>by
  have:IntKind.i64.wrap ((p:Int)+(q:Int))=((p+q:Nat):Int):=by rw [ahr];omega
  simp [Go.binOp,Op.intArith,this]) w
def abR {d:Nat} {t t':TypeId}{x y:Operand}{e:Operand->Value}{p q:Nat}(ho:ai o d (.binOp .sub t x y t'))(hx:e x= .int .i64 p)(hy:e y= .int .i64 q)(hl:p<2^63)(hq:q<=p)(w:World): (execOp e o).run P w= .ok (.value (.int .i64 ((p-q:Nat):Int))) w:=wF ho hx hy (λw=>by
  have:IntKind.i64.wrap ((p:Int)-(q:Int))=((p-q:Nat):Int):=by rw [ahr];omega
  simp [Go.binOp,Op.intArith,this]) w
def Pd {d:Nat}{t:TypeId}{x:Operand}{e:Operand->Value}{b:Bool}(ho:ai o d (.unOp .not t x))(hx:e x= .bool b)(w:World): (execOp e o).run P w= .ok (.value (.bool (!b))) w:=by simp [execOp,ho.op,hx,Op.unary]
def Ad {d:Nat}{t el:TypeId}{x y:Operand}{e:Operand->Value}{ad:Option Addr}{m c l size:Nat}{i:TypeInfo}(ho:ai o d (.slice t x (some y) none none))(hu:P.underlying t=some (.slice el))(hi:P.info? el=some i)(hs:i.size=size)(hx:e x= .slice ad m c)(hy:e y= .int .i64 l)(hl:l<=m)(w:World):(execOp e o).run P w= .ok (.value (.slice (if c=l then ad else ad.map (·.add (l *size))) (m-l) (c-l))) w:=by simp [execOp,ho.op,aiS,ajM,run_underlying hu,hx,hy,afS,typeInfo,hi,hs,agc,ahs,asIntOf,hl]
def Ei {d:Nat}{t el:TypeId}{x y:Operand}{e:Operand->Value}{ad:Option Addr}{m c l size:Nat}{i:TypeInfo}(ho:ai o d (.slice t x none (some y) none))(hu:P.underlying t=some (.slice el))(hi:P.info? el=some i)(hs:i.size=size)(hx:e x= .slice ad m c)(hy:e y= .int .i64 l)(hl:l<=c)(w:World):(execOp e o).run P w= .ok (.value (.slice ad l c)) w:=by
 have h0: ∀q:Addr,q.add 0=q:=(by grind [Addr.add])
 have:(if c=0 then ad else ad.map (·.add (0 *size)))=ad:=by cases ad<;>simp [h0]
 simp [execOp,ho.op,aiS,ajM,run_underlying hu,hx,hy,afS,typeInfo,hi,hs,agc,ahs,asIntOf,hl];grind
def nT {d:Nat}{t el:TypeId}{x y:Operand}{e:Operand->Value}{g m c l size:Nat}{i:TypeInfo}(ho:ai o d (.slice t x (some y) none none))(hu:P.underlying t=some (.slice el))(hi:P.info? el=some i)(hs:i.size=size)(hx:e x= .slice (some ⟨g,0,none⟩) m c)(hy:e y= .int .i64 l)(hl:l<=m)(hc:l<c)(w:World):(execOp e o).run P w= .ok (.value (.slice (some ⟨g,l *size,none⟩) (m-l) (c-l))) w:=by
 rw [Ad ho hu hi hs hx hy hl w];have: ¬c=l:=aah
 simp_all [aei,agt]
def afl {d:Nat}{x y:Operand}{t1 t2:TypeId}{f:FuncId}{e:Operand->Value}{v1 v2 v:Value}(ho:ai o d (.call {callee:= .value (.func f),args:= #[x,y],argTypes:= #[t1,t2]})) (he:e (.func f)= .func (.func f) #[] #[]) (hx:e x=v1) (hy:e y=v2) (h:(callFunc f #[v1,v2]).run P w= .ok (.value v) w'):(execOp e o).run P w= .ok (.value v) w':=by grind [execOp,ho.op,resolve,invoke,builtin,aeo]
def JV {d:Nat}{x y:Operand}{t1 t2:TypeId}{e:Operand->Value}{v1 v2 v:Value}(ho:ai o d (.call {callee:= .builtin .append,args:= #[x,y],argTypes:= #[t1,t2]})) (hx:e x=v1) (hy:e y=v2) (h:(aey #[t1,t2] o.type #[v1,v2]).run P w= .ok v w'):(execOp e o).run P w= .ok (.value v) w':=by simp_all [execOp,ho.op,resolve,invoke,builtin]
def Ej {d:Nat}{x y:Operand}{t1 t2:TypeId}{e:Operand->Value}{v1 v2 v:Value}(ho:ai o d (.call {callee:= .builtin .copy,args:= #[x,y],argTypes:= #[t1,t2]})) (hx:e x=v1) (hy:e y=v2) (h:(aen #[t1,t2] o.type #[v1,v2]).run P w= .ok v w'):(execOp e o).run P w= .ok (.value v) w':=by simp_all [execOp,ho.op,resolve,invoke,builtin]
def qq {dT sT ty elem t:TypeId}{g o afm ajU pH zg size k:Nat}{a:Addr}{cD:Array Value}{cs:List Value}{i:TypeInfo}(hu:P.underlying dT=some (.slice elem))(hi:P.info? elem=some i)(hs:i.size=size)(hg:w.heap[g]? =some (.cells cD t (0,0)))(hk:Nat.min pH afm=k)(hn:cs.length=k *size)(zX: ∀(j:Nat) v,cs[j]? =some v->w.cell? (a.add j)=some v)(BN:o+cs.length<=cD.size)(h1: ∀v∈cs,v.oneCell'=true): (aen #[dT,sT] ty #[.slice (some ⟨g,o,none⟩) afm ajU,.slice (some a) pH zg]).run P w= .ok (goInt k) (w.setRow g (cD.toList.take o++cs++cD.toList.drop (o+cs.length)).toArray):=by have hl:=run_loadCells_list (P:=P) w a cs zX;have eh:=run_storeCells_at P g o t cs 0 cD w hg (by simpa using BN) h1;simp_all [aen,run_underlying,Builtin.lenOf,alj,afS,typeInfo]
def Ry (ops:Array Oper):Nat->Nat->Array Bool->Bool
 |0,i,listed=>(sh .any ops (listed.setIfInBounds i true)).isEmpty&&(sh .any ops listed==[i])
 |k+1,i,listed=>Region.free .any ops listed i&&(sh .any ops listed).contains i&&Ry ops k (i+1) (listed.setIfInBounds i true)
def Wd (ops:Array Oper):Bool:=ahK ops&&Nat.blt 0 ops.size&&Ry ops (ops.size-1) 0 (AI ops.size false)
structure We (ops:Array Oper) (k i:Nat) (listed:Array Bool):Prop where
 sel:ahK ops=true
 ord:Ry ops k i listed=true
def Tm.draw {N:Act->World->Prop}{i d:Nat}{op:Op}{k:Nat}{listed:Array Bool}{v:Value}(al:Tm a n σ)(hi:ops[i]? =some o)(ho:ai o d op)(hd:d<n)(hb:We ops (k+1) i listed)(bF: ∀w,(execOp (ev σ) o).run P w= .ok (.value v) w)(h: ∀a',Tm a' n (lp σ d v)->We ops k (i+1) (listed.setIfInBounds i true)->wpAny P .any ops (oq N) (k+1) (listed.setIfInBounds i true) a' w):wpAny P .any ops (oq N) (k+2) listed a w:=by have ⟨hs,hb⟩:=hb;simp only [Ry,bo] at hb;have ⟨⟨h1,h2⟩,h3⟩:=hb;refine wpAny_take hi hs h1 h2 (λc a w hq=>hq.elim) (v:=v) (.inl (by grind [BY,ho.guard,al.eval])) ?_;rw [ho.dst];exact h _ (al.put hd v) ⟨hs,h3⟩
def Tm.last {N:Act->World->Prop}{i d:Nat}{op:Op}{listed:Array Bool}{v:Value}(al:Tm a n σ)(hi:ops[i]? =some o)(ho:ai o d op)(hd:d<n)(hb:We ops 0 i listed)(bF:(execOp (ev σ) o).run P w= .ok (.value v) w')(h: ∀a',Tm a' n (lp σ d v)->N a' w'):wpAny P .any ops (oq N) 1 listed a w:=by have ⟨hs,hb⟩:=hb;simp only [Ry,bo,List.isEmpty_iff,beq_iff_eq] at hb;have ⟨h1,h2⟩:=hb;refine wpAny_all h2 aaS ?_;intro j hj;simp at hj;subst hj;unfold wpOp;simp only [hi,BY,ho.guard,if_true];left;unfold ahP;rw [al.eval,bF,afA,ho.dst];exact wpAny_done h1 (h _ (al.put hd v)) 0
def Wf {id k:Nat}(hm:P.follows .mixedOrders=true)(hb:Wd ops=true)(hk:ops.size=k+1)(h:We ops k 0 (AI (k+1) false)->wpAny P .any ops (oq λa w=>Q .normal a w) (k+1) (AI (k+1) false) a {w with drawn:=w.drawn+1}): (als id ops true).wp P Q a w:=by simp only [Wd,bo] at hb;rw [hk] at hb;refine ahR ?_ (wp_region_any (Q:=oq λa w=>Q .normal a w) hm (by rw [hk];exact h ⟨hb.1.1,hb.2⟩));intro x a' w' hx;cases x<;>first|exact hx|exact hx.elim
def Tm.cond {x:Operand}{b:Bool}{A B:Code}(al:Tm a n σ)(hx:ev σ x= .bool b)(h:(if b then A else B).wp P Q a w):(Code.cond x A B).wp P Q a w:=by simp_all [wp_cond,al.eval]
end
def xI (r:Nat->Nat)(o:Nat->Oper)(tail:Code):Code:= .seq (.region (r 0) #[o 0] false) (.seq (.region (r 1) #[o 1,o 2,o 3] false) (.seq (.region (r 2) #[o 4,o 5,o 6] false) (.seq (.seq (.region (r 3) #[o 7,o 8] false) (.cond (.tmp 16) (.seq (.region (r 4) #[o 9,o 10] false) .ret) .skip)) (.seq (.region (r 5) #[o 11,o 12,o 13] false) (.seq (.seq (.region (r 6) #[o 14,o 15,o 16] false) (.cond (.tmp 22) (.seq (.region (r 7) #[o 17,o 18,o 19,o 20] false) .ret) .skip)) (.seq (.seq (.region (r 8) #[o 21,o 22,o 23,o 24,o 25,o 26] false) (.cond (.tmp 31) (.seq (.region (r 9) #[o 27,o 28,o 29,o 30,o 31,o 32,o 33,o 34,o 35,o 36] false) (.seq (.region (r 10) #[o 37,o 38,o 39,o 40,o 41] false) (.seq (.region (r 11) #[o 42,o 43,o 44,o 45,o 46,o 47,o 48,o 49,o 50] true) (.seq (.region (r 12) #[o 51,o 52] false) .ret)))) .skip)) (.seq (.region (r 13) #[o 53,o 54,o 55,o 56,o 57,o 58] false) (.seq (.seq (.region (r 14) #[o 59,o 60,o 61,o 62,o 63,o 64,o 65,o 66] false) (.cond (.tmp 68) (.seq (.region (r 15) #[o 67,o 68,o 69,o 70,o 71,o 72,o 73,o 74,o 75] true) (.seq (.region (r 16) #[o 76,o 77,o 78,o 79,o 80] false) (.seq (.region (r 17) #[o 81,o 82] false) .ret))) .skip)) tail))))))))
structure ajV (t ti tb fo:Nat) (o:Nat->Oper):Prop where
 h0:ai (o 0) 6 (.assign (.const (.slice none 0 0)))
 h1:ai (o 1) 10 (.move (.tmp 0))
 h2:ai (o 2) 11 (.move (.tmp 1))
 h3:ai (o 3) 12 (.slice t (.tmp 10) (some (.tmp 11)) none none)
 h4:ai (o 4) 13 (.move (.tmp 2))
 h5:ai (o 5) 14 (.call {callee:= .builtin .len,args:= #[.tmp 13],argTypes:= #[t]})
 h6:ai (o 6) 7 (.assign (.tmp 14))
 h7:ai (o 7) 15 (.move (.tmp 7))
 h8:ai (o 8) 16 (.binOp .eql ti (.tmp 15) (.const (.int .i64 0)) ti)
 h9:ai (o 9) 17 (.move (.tmp 0))
 Fz:ai (o 10) 6 (.assign (.tmp 17))
 Mr:ai (o 11) 18 (.move (.tmp 0))
 LY:ai (o 12) 19 (.call {callee:= .builtin .len,args:= #[.tmp 18],argTypes:= #[t]})
 JW:ai (o 13) 8 (.assign (.tmp 19))
 Pe:ai (o 14) 20 (.move (.tmp 1))
 LZ:ai (o 15) 21 (.move (.tmp 8))
 Ir:ai (o 16) 22 (.binOp .eql ti (.tmp 20) (.tmp 21) ti)
 Pf:ai (o 17) 23 (.move (.tmp 0))
 Qm:ai (o 18) 24 (.move (.tmp 2))
 Rz:ai (o 19) 25 (.call {callee:= .builtin .append,args:= #[.tmp 23,.tmp 24],argTypes:= #[t,t]})
 S3:ai (o 20) 6 (.assign (.tmp 25))
 Qn:ai (o 21) 26 (.move (.tmp 8))
 S4:ai (o 22) 27 (.move (.tmp 7))
 Pg:ai (o 23) 28 (.binOp .add ti (.tmp 26) (.tmp 27) ti)
 RB:ai (o 24) 29 (.move (.tmp 0))
 NK:ai (o 25) 30 (.call {callee:= .builtin .cap,args:= #[.tmp 29],argTypes:= #[t]})
 Ua:ai (o 26) 31 (.binOp .gtr ti (.tmp 28) (.tmp 30) ti)
 X9:ai (o 27) 32 (.move (.tmp 0))
 Wg:ai (o 28) 33 (.move (.tmp 1))
 Wh:ai (o 29) 34 (.slice t (.tmp 32) none (some (.tmp 33)) none)
 ZT:ai (o 30) 35 (.move (.tmp 8))
 Wi:ai (o 31) 36 (.move (.tmp 7))
 S5:ai (o 32) 37 (.binOp .add ti (.tmp 35) (.tmp 36) ti)
 Ya:ai (o 33) 38 (.move (.tmp 1))
 Yb:ai (o 34) 39 (.binOp .sub ti (.tmp 37) (.tmp 38) ti)
 Wj:ai (o 35) 40 (.call {callee:= .builtin .append,args:= #[.tmp 34,.tmp 39],argTypes:= #[t,ti]})
 Yc:ai (o 36) 9 (.assign (.tmp 40))
 Ub:ai (o 37) 41 (.move (.tmp 9))
 Wk:ai (o 38) 42 (.move (.tmp 1))
 Yd:ai (o 39) 43 (.slice t (.tmp 41) (some (.tmp 42)) none none)
 ZU:ai (o 40) 44 (.move (.tmp 2))
 Uc:ai (o 41) 45 (.call {callee:= .builtin .copy,args:= #[.tmp 43,.tmp 44],argTypes:= #[t,t]})
 h42:ai (o 42) 46 (.move (.tmp 9))
 Ye:ai (o 43) 47 (.move (.tmp 1))
 ZV:ai (o 44) 48 (.move (.tmp 7))
 h45:ai (o 45) 49 (.binOp .add ti (.tmp 47) (.tmp 48) ti)
 h46:ai (o 46) 50 (.slice t (.tmp 46) (some (.tmp 49)) none none)
 Wl:ai (o 47) 51 (.move (.tmp 0))
 VM:ai (o 48) 52 (.move (.tmp 1))
 Ud:ai (o 49) 53 (.slice t (.tmp 51) (some (.tmp 52)) none none)
 S6:ai (o 50) 54 (.call {callee:= .builtin .copy,args:= #[.tmp 50,.tmp 53],argTypes:= #[t,t]})
 h51:ai (o 51) 55 (.move (.tmp 9))
 h52:ai (o 52) 6 (.assign (.tmp 55))
 h53:ai (o 53) 56 (.move (.tmp 0))
 h54:ai (o 54) 57 (.move (.tmp 8))
 h55:ai (o 55) 58 (.move (.tmp 7))
 h56:ai (o 56) 59 (.binOp .add ti (.tmp 57) (.tmp 58) ti)
 h57:ai (o 57) 60 (.slice t (.tmp 56) none (some (.tmp 59)) none)
 h58:ai (o 58) 0 (.assign (.tmp 60))
 h59:ai (o 59) 61 (.move (.tmp 2))
 h60:ai (o 60) 62 (.move (.tmp 0))
 h61:ai (o 61) 63 (.move (.tmp 1))
 h62:ai (o 62) 64 (.move (.tmp 7))
 h63:ai (o 63) 65 (.binOp .add ti (.tmp 63) (.tmp 64) ti)
 h64:ai (o 64) 66 (.slice t (.tmp 62) (some (.tmp 65)) none none)
 h65:ai (o 65) 67 (.call {callee:= .value (.func fo),args:= #[.tmp 61,.tmp 66],argTypes:= #[t,t]})
 h66:ai (o 66) 68 (.unOp .not tb (.tmp 67))
 h67:ai (o 67) 69 (.move (.tmp 0))
 h68:ai (o 68) 70 (.move (.tmp 1))
 h69:ai (o 69) 71 (.move (.tmp 7))
 h70:ai (o 70) 72 (.binOp .add ti (.tmp 70) (.tmp 71) ti)
 h71:ai (o 71) 73 (.slice t (.tmp 69) (some (.tmp 72)) none none)
 h72:ai (o 72) 74 (.move (.tmp 0))
 h73:ai (o 73) 75 (.move (.tmp 1))
 h74:ai (o 74) 76 (.slice t (.tmp 74) (some (.tmp 75)) none none)
 h75:ai (o 75) 77 (.call {callee:= .builtin .copy,args:= #[.tmp 73,.tmp 76],argTypes:= #[t,t]})
 h76:ai (o 76) 78 (.move (.tmp 0))
 h77:ai (o 77) 79 (.move (.tmp 1))
 h78:ai (o 78) 80 (.slice t (.tmp 78) (some (.tmp 79)) none none)
 h79:ai (o 79) 81 (.move (.tmp 2))
 h80:ai (o 80) 82 (.call {callee:= .builtin .copy,args:= #[.tmp 80,.tmp 81],argTypes:= #[t,t]})
 h81:ai (o 81) 83 (.move (.tmp 0))
 h82:ai (o 82) 6 (.assign (.tmp 83))
 d11:Wd #[o 42,o 43,o 44,o 45,o 46,o 47,o 48,o 49,o 50]=true
 d15:Wd #[o 67,o 68,o 69,o 70,o 71,o 72,o 73,o 74,o 75]=true
structure JX (P:Program) (f t ti tb el fo:Nat) (fn:Func) (r:Nat->Nat) (o:Nat->Oper) (tail:Code):Prop where
 pos:P.funcs[f]? =some fn
 name:(fn.name== "runtime.NumGoroutine")=false
 tmps:fn.ntmps=95
 res:fn.results= #[.tmp 6]
 body:fn.body=some (xI r o tail)
 ops:ajV t ti tb fo o
 mix:P.follows .mixedOrders=true
 wG:P.underlying t=some (.slice el)
section
variable {P:Program}{f t ti tb el fo:Nat}{fn:Func}{r:Nat->Nat}{o:Nat->Oper}{tail:Code}{ie:TypeInfo}{size n m c c2 i g g2:Nat}{ad:Option Addr}{w:World}{key:Nat->Nat}{φ:Ph}
def Pj {a:Act}{w:World} {σ:Nat->Value}{R:Ending->World->Prop}{v:Value}(hr:fn.results= #[.tmp 6])(al:Tm a 95 σ)(h6:σ 6=v)(h:R (.returned v) w):bodyPost P fn R .ret a w:=by
 refine ⟨al.defers,v,?_,h⟩;have h2:a.tmps[6]?.getD undef=v:=by have:=al.get 6;rw [h6] at this;simpa using this
 simp_all [results]
def afp (hf:JX P f t ti tb el fo fn r o tail)(pu:P.info? el=some ie)(zH:ie.size=size)(hm:0<m)(hn:n<=c)(hc:c<2^63)(hnm:n+m<2^63)(hi:i=n){v:Value}{w1:World}(bF: ∀ty,(aey #[t,t] ty #[.slice ad n c,.slice (some ⟨g2,0,none⟩) m c2]).run P w= .ok v w1) :Calls P f #[.slice ad n c,.int .i64 ((i:Nat):Int),.slice (some ⟨g2,0,none⟩) m c2] w λx w'=>x= .returned v/\w'=w1:=by
 refine calls_of_wp hf.pos hf.body ?_;rw [hf.tmps];have key: ∀a:Act,Tm a 95 (lp (lp (lp (λ_=>undef) 0 (.slice ad n c)) 1 (.int .i64 ((i:Nat):Int))) 2 (.slice (some ⟨g2,0,none⟩) m c2))->(xI r o tail).wp P (bodyPost P fn λx w'=>x= .returned v/\w'=w1) a w:=by intro a al;unfold xI;refine wp_seq (wp_region ?_);refine al.vd hf.ops.h0 λa al=> ?_;refine wp_seq (wp_region ?_);refine al.mv hf.ops.h1 λa al=> ?_;refine al.mv hf.ops.h2 λa al=> ?_;refine al.st hf.ops.h3 (Ad hf.ops.h3 hf.wG pu zH rfl rfl aah) λa al=> ?_;refine wp_seq (wp_region ?_);refine al.mv hf.ops.h4 λa al=> ?_;refine al.st hf.ops.h5 (mq hf.ops.h5 hf.wG rfl) λa al=> ?_;refine al.vd hf.ops.h6 λa al=> ?_;refine wp_seq ?_;refine wp_seq (wp_region ?_);refine al.mv hf.ops.h7 λa al=> ?_;refine al.st hf.ops.h8 (nk hf.ops.h8 rfl rfl) λa al=> ?_;refine al.cond (b:=false) (by show aec (decide (((m:Nat):Int)=((0:Nat):Int)))=_;grind [decide_eq_false]) ?_;simp only [AS,if_false];refine wp_skip ?_;refine wp_seq (wp_region ?_);refine al.mv hf.ops.Mr λa al=> ?_;refine al.st hf.ops.LY (mq hf.ops.LY hf.wG rfl) λa al=> ?_;refine al.vd hf.ops.JW λa al=> ?_;refine wp_seq ?_;refine wp_seq (wp_region ?_);refine al.mv hf.ops.Pe λa al=> ?_;refine al.mv hf.ops.LZ λa al=> ?_;refine al.st hf.ops.Ir (nk hf.ops.Ir rfl rfl) λa al=> ?_;refine al.cond (b:=true) (by show aec (decide (((i:Nat):Int)=((n:Nat):Int)))=_;grind) ?_;simp only [if_true];refine wp_seq (wp_region ?_);refine al.mv hf.ops.Pf λa al=> ?_;refine al.mv hf.ops.Qm λa al=> ?_;refine al.cz (v:=v) hf.ops.Rz (JV hf.ops.Rz rfl rfl (bF _)) λa al=> ?_;refine al.vd hf.ops.S3 λa al=> ?_;refine wp_ret ?_;show bodyPost P fn (λx wq=>x= .returned (v)/\wq=w1) .ret a w1;refine Pj hf.res al (v:=v) rfl ?_;exact ⟨rfl,rfl⟩
 grind [tm3]
theorem abS (hf:JX P f t ti tb el fo fn r o tail)(pu:P.info? el=some ie)(zH:ie.size=size)(hm:0<m)(hn:n<=c)(hc:c<2^63)(hnm:n+m<2^63)(hi:i<n)(uV:c<n+m){g9 G:Nat}{v1 v2:Value}{w1 w2 w3:World}(hG:n+m<=G)(hA: ∀ty,(aey #[t,ti] ty #[.slice (some ⟨g,0,none⟩) i c,.int .i64 ((n+m-i:Nat):Int)]).run P w= .ok (.slice (some ⟨g9,0,none⟩) (n+m) G) w1)(hB: ∀ty,(aen #[t,t] ty #[.slice (some ⟨g9,i *size,none⟩) (n+m-i) (G-i),.slice (some ⟨g2,0,none⟩) m c2]).run P w1= .ok v1 w2)(hC: ∀ty,(aen #[t,t] ty #[.slice (some ⟨g9,(i+m) *size,none⟩) (n+m-(i+m)) (G-(i+m)),.slice (some ⟨g,i *size,none⟩) (n-i) (c-i)]).run P {w2 with drawn:=w2.drawn+1}= .ok v2 w3) :Calls P f #[.slice (some ⟨g,0,none⟩) n c,.int .i64 ((i:Nat):Int),.slice (some ⟨g2,0,none⟩) m c2] w λx w'=>x= .returned (.slice (some ⟨g9,0,none⟩) (n+m) G)/\w'=w3:=by
 refine calls_of_wp hf.pos hf.body ?_;rw [hf.tmps];have key: ∀a:Act,Tm a 95 (lp (lp (lp (λ_=>undef) 0 (.slice (some ⟨g,0,none⟩) n c)) 1 (.int .i64 ((i:Nat):Int))) 2 (.slice (some ⟨g2,0,none⟩) m c2))->(xI r o tail).wp P (bodyPost P fn λx w'=>x= .returned (.slice (some ⟨g9,0,none⟩) (n+m) G)/\w'=w3) a w:=by intro a al;unfold xI;refine wp_seq (wp_region ?_);refine al.vd hf.ops.h0 λa al=> ?_;refine wp_seq (wp_region ?_);refine al.mv hf.ops.h1 λa al=> ?_;refine al.mv hf.ops.h2 λa al=> ?_;refine al.st hf.ops.h3 (Ad hf.ops.h3 hf.wG pu zH rfl rfl aah) λa al=> ?_;refine wp_seq (wp_region ?_);refine al.mv hf.ops.h4 λa al=> ?_;refine al.st hf.ops.h5 (mq hf.ops.h5 hf.wG rfl) λa al=> ?_;refine al.vd hf.ops.h6 λa al=> ?_;refine wp_seq ?_;refine wp_seq (wp_region ?_);refine al.mv hf.ops.h7 λa al=> ?_;refine al.st hf.ops.h8 (nk hf.ops.h8 rfl rfl) λa al=> ?_;refine al.cond (b:=false) (by show aec (decide (((m:Nat):Int)=((0:Nat):Int)))=_;grind [decide_eq_false]) ?_;simp only [AS,if_false];refine wp_skip ?_;refine wp_seq (wp_region ?_);refine al.mv hf.ops.Mr λa al=> ?_;refine al.st hf.ops.LY (mq hf.ops.LY hf.wG rfl) λa al=> ?_;refine al.vd hf.ops.JW λa al=> ?_;refine wp_seq ?_;refine wp_seq (wp_region ?_);refine al.mv hf.ops.Pe λa al=> ?_;refine al.mv hf.ops.LZ λa al=> ?_;refine al.st hf.ops.Ir (nk hf.ops.Ir rfl rfl) λa al=> ?_;refine al.cond (b:=false) (by show aec (decide (((i:Nat):Int)=((n:Nat):Int)))=_;grind [decide_eq_false]) ?_;simp only [AS,if_false];refine wp_skip ?_;refine wp_seq ?_;refine wp_seq (wp_region ?_);refine al.mv hf.ops.Qn λa al=> ?_;refine al.mv hf.ops.S4 λa al=> ?_;refine al.st hf.ops.Pg (ju hf.ops.Pg rfl rfl aah) λa al=> ?_;refine al.mv hf.ops.RB λa al=> ?_;refine al.st hf.ops.NK (V9 hf.ops.NK hf.wG rfl) λa al=> ?_;refine al.st hf.ops.Ua (Rx hf.ops.Ua rfl rfl) λa al=> ?_;refine al.cond (b:=true) (by show aec (decide (((c:Nat):Int)<((n+m:Nat):Int)))=_;grind) ?_;simp only [if_true];refine wp_seq (wp_region ?_);refine al.mv hf.ops.X9 λa al=> ?_;refine al.mv hf.ops.Wg λa al=> ?_;refine al.st hf.ops.Wh (Ei hf.ops.Wh hf.wG pu zH rfl rfl aah) λa al=> ?_;refine al.mv hf.ops.ZT λa al=> ?_;refine al.mv hf.ops.Wi λa al=> ?_;refine al.st hf.ops.S5 (ju hf.ops.S5 rfl rfl aah) λa al=> ?_;refine al.mv hf.ops.Ya λa al=> ?_;refine al.st hf.ops.Yb (abR hf.ops.Yb rfl rfl aah aah) λa al=> ?_;refine al.cz (v:= .slice (some ⟨g9,0,none⟩) (n+m) G) hf.ops.Wj (JV hf.ops.Wj rfl rfl (hA _)) λa al=> ?_;refine al.vd hf.ops.Yc λa al=> ?_;refine wp_seq (wp_region ?_);refine al.mv hf.ops.Ub λa al=> ?_;refine al.mv hf.ops.Wk λa al=> ?_;refine al.st hf.ops.Yd (nT hf.ops.Yd hf.wG pu zH rfl rfl aah aah) λa al=> ?_;refine al.mv hf.ops.ZU λa al=> ?_;refine al.cz (v:=v1) hf.ops.Uc (Ej hf.ops.Uc rfl rfl (hB _)) λa al=> ?_;refine wp_seq (Wf hf.mix hf.ops.d11 (k:=8) rfl λfR=> ?_);refine al.draw (v:= .slice (some ⟨g9,0,none⟩) (n+m) G) rfl hf.ops.h42 aaD fR (λw=>j6 hf.ops.h42 _) (λa al fR=> ?_);refine al.draw (v:= .int .i64 ((i:Nat):Int)) rfl hf.ops.Ye aaD fR (λw=>j6 hf.ops.Ye _) (λa al fR=> ?_);refine al.draw (v:= .int .i64 ((m:Nat):Int)) rfl hf.ops.ZV aaD fR (λw=>j6 hf.ops.ZV _) (λa al fR=> ?_);refine al.draw (v:= .int .i64 ((i+m:Nat):Int)) rfl hf.ops.h45 aaD fR (λw=>ju hf.ops.h45 rfl rfl aah _) (λa al fR=> ?_);refine al.draw (v:= .slice (some ⟨g9,(i+m) *size,none⟩) (n+m-(i+m)) (G-(i+m))) rfl hf.ops.h46 aaD fR (λw=>nT hf.ops.h46 hf.wG pu zH rfl rfl aah aah _) (λa al fR=> ?_);refine al.draw (v:= .slice (some ⟨g,0,none⟩) n c) rfl hf.ops.Wl aaD fR (λw=>j6 hf.ops.Wl _) (λa al fR=> ?_);refine al.draw (v:= .int .i64 ((i:Nat):Int)) rfl hf.ops.VM aaD fR (λw=>j6 hf.ops.VM _) (λa al fR=> ?_);refine al.draw (v:= .slice (some ⟨g,i *size,none⟩) (n-i) (c-i)) rfl hf.ops.Ud aaD fR (λw=>nT hf.ops.Ud hf.wG pu zH rfl rfl aah aah _) (λa al fR=> ?_);refine al.last (v:=v2) rfl hf.ops.S6 aaD fR (Ej hf.ops.S6 rfl rfl (hC _)) (λa al=> ?_);refine wp_seq (wp_region ?_);refine al.mv hf.ops.h51 λa al=> ?_;refine al.vd hf.ops.h52 λa al=> ?_;refine wp_ret ?_;show bodyPost P fn (λx wq=>x= .returned (.slice (some ⟨g9,0,none⟩) (n+m) G)/\wq=w3) .ret a w3;refine Pj hf.res al (v:= .slice (some ⟨g9,0,none⟩) (n+m) G) rfl ?_;exact ⟨rfl,rfl⟩
 grind [tm3]
theorem abT (hf:JX P f t ti tb el fo fn r o tail)(pu:P.info? el=some ie)(zH:ie.size=size)(hm:0<m)(hn:n<=c)(hc:c<2^63)(hnm:n+m<2^63)(hi:i<n)(uV:n+m<=c){v1 v2:Value}{w1 w2:World}(hO:(callFunc fo #[.slice (some ⟨g2,0,none⟩) m c2,.slice (some ⟨g,(i+m) *size,none⟩) (n+m-(i+m)) (c-(i+m))]).run P w= .ok (.value (.bool false)) w)(hB: ∀ty,(aen #[t,t] ty #[.slice (some ⟨g,(i+m) *size,none⟩) (n+m-(i+m)) (c-(i+m)),.slice (some ⟨g,i *size,none⟩) (n+m-i) (c-i)]).run P {w with drawn:=w.drawn+1}= .ok v1 w1) (hC: ∀ty,(aen #[t,t] ty #[.slice (some ⟨g,i *size,none⟩) (n+m-i) (c-i),.slice (some ⟨g2,0,none⟩) m c2]).run P w1= .ok v2 w2) :Calls P f #[.slice (some ⟨g,0,none⟩) n c,.int .i64 ((i:Nat):Int),.slice (some ⟨g2,0,none⟩) m c2] w λx w'=>x= .returned (.slice (some ⟨g,0,none⟩) (n+m) c)/\w'=w2:=by
 refine calls_of_wp hf.pos hf.body ?_;rw [hf.tmps];have key: ∀a:Act,Tm a 95 (lp (lp (lp (λ_=>undef) 0 (.slice (some ⟨g,0,none⟩) n c)) 1 (.int .i64 ((i:Nat):Int))) 2 (.slice (some ⟨g2,0,none⟩) m c2))->(xI r o tail).wp P (bodyPost P fn λx w'=>x= .returned (.slice (some ⟨g,0,none⟩) (n+m) c)/\w'=w2) a w:=by intro a al;unfold xI;refine wp_seq (wp_region ?_);refine al.vd hf.ops.h0 λa al=> ?_;refine wp_seq (wp_region ?_);refine al.mv hf.ops.h1 λa al=> ?_;refine al.mv hf.ops.h2 λa al=> ?_;refine al.st hf.ops.h3 (Ad hf.ops.h3 hf.wG pu zH rfl rfl aah) λa al=> ?_;refine wp_seq (wp_region ?_);refine al.mv hf.ops.h4 λa al=> ?_;refine al.st hf.ops.h5 (mq hf.ops.h5 hf.wG rfl) λa al=> ?_;refine al.vd hf.ops.h6 λa al=> ?_;refine wp_seq ?_;refine wp_seq (wp_region ?_);refine al.mv hf.ops.h7 λa al=> ?_;refine al.st hf.ops.h8 (nk hf.ops.h8 rfl rfl) λa al=> ?_;refine al.cond (b:=false) (by show aec (decide (((m:Nat):Int)=((0:Nat):Int)))=_;grind [decide_eq_false]) ?_;simp only [AS,if_false];refine wp_skip ?_;refine wp_seq (wp_region ?_);refine al.mv hf.ops.Mr λa al=> ?_;refine al.st hf.ops.LY (mq hf.ops.LY hf.wG rfl) λa al=> ?_;refine al.vd hf.ops.JW λa al=> ?_;refine wp_seq ?_;refine wp_seq (wp_region ?_);refine al.mv hf.ops.Pe λa al=> ?_;refine al.mv hf.ops.LZ λa al=> ?_;refine al.st hf.ops.Ir (nk hf.ops.Ir rfl rfl) λa al=> ?_;refine al.cond (b:=false) (by show aec (decide (((i:Nat):Int)=((n:Nat):Int)))=_;grind [decide_eq_false]) ?_;simp only [AS,if_false];refine wp_skip ?_;refine wp_seq ?_;refine wp_seq (wp_region ?_);refine al.mv hf.ops.Qn λa al=> ?_;refine al.mv hf.ops.S4 λa al=> ?_;refine al.st hf.ops.Pg (ju hf.ops.Pg rfl rfl aah) λa al=> ?_;refine al.mv hf.ops.RB λa al=> ?_;refine al.st hf.ops.NK (V9 hf.ops.NK hf.wG rfl) λa al=> ?_;refine al.st hf.ops.Ua (Rx hf.ops.Ua rfl rfl) λa al=> ?_;refine al.cond (b:=false) (by show aec (decide (((c:Nat):Int)<((n+m:Nat):Int)))=_;grind) ?_;simp only [AS,if_false];refine wp_skip ?_;refine wp_seq (wp_region ?_);refine al.mv hf.ops.h53 λa al=> ?_;refine al.mv hf.ops.h54 λa al=> ?_;refine al.mv hf.ops.h55 λa al=> ?_;refine al.st hf.ops.h56 (ju hf.ops.h56 rfl rfl aah) λa al=> ?_;refine al.st hf.ops.h57 (Ei hf.ops.h57 hf.wG pu zH rfl rfl aah) λa al=> ?_;refine al.vd hf.ops.h58 λa al=> ?_;refine wp_seq ?_;refine wp_seq (wp_region ?_);refine al.mv hf.ops.h59 λa al=> ?_;refine al.mv hf.ops.h60 λa al=> ?_;refine al.mv hf.ops.h61 λa al=> ?_;refine al.mv hf.ops.h62 λa al=> ?_;refine al.st hf.ops.h63 (ju hf.ops.h63 rfl rfl aah) λa al=> ?_;refine al.st hf.ops.h64 (nT hf.ops.h64 hf.wG pu zH rfl rfl aah aah) λa al=> ?_;refine al.cz (v:= .bool false) hf.ops.h65 (afl hf.ops.h65 rfl rfl rfl hO) λa al=> ?_;refine al.st hf.ops.h66 (Pd hf.ops.h66 rfl) λa al=> ?_;refine al.cond (b:=true) rfl ?_;simp only [if_true];refine wp_seq (Wf hf.mix hf.ops.d15 (k:=8) rfl λfR=> ?_);refine al.draw (v:= .slice (some ⟨g,0,none⟩) (n+m) c) rfl hf.ops.h67 aaD fR (λw=>j6 hf.ops.h67 _) (λa al fR=> ?_);refine al.draw (v:= .int .i64 ((i:Nat):Int)) rfl hf.ops.h68 aaD fR (λw=>j6 hf.ops.h68 _) (λa al fR=> ?_);refine al.draw (v:= .int .i64 ((m:Nat):Int)) rfl hf.ops.h69 aaD fR (λw=>j6 hf.ops.h69 _) (λa al fR=> ?_);refine al.draw (v:= .int .i64 ((i+m:Nat):Int)) rfl hf.ops.h70 aaD fR (λw=>ju hf.ops.h70 rfl rfl aah _) (λa al fR=> ?_);refine al.draw (v:= .slice (some ⟨g,(i+m) *size,none⟩) (n+m-(i+m)) (c-(i+m))) rfl hf.ops.h71 aaD fR (λw=>nT hf.ops.h71 hf.wG pu zH rfl rfl aah aah _) (λa al fR=> ?_);refine al.draw (v:= .slice (some ⟨g,0,none⟩) (n+m) c) rfl hf.ops.h72 aaD fR (λw=>j6 hf.ops.h72 _) (λa al fR=> ?_);refine al.draw (v:= .int .i64 ((i:Nat):Int)) rfl hf.ops.h73 aaD fR (λw=>j6 hf.ops.h73 _) (λa al fR=> ?_);refine al.draw (v:= .slice (some ⟨g,i *size,none⟩) (n+m-i) (c-i)) rfl hf.ops.h74 aaD fR (λw=>nT hf.ops.h74 hf.wG pu zH rfl rfl aah aah _) (λa al fR=> ?_);refine al.last (v:=v1) rfl hf.ops.h75 aaD fR (Ej hf.ops.h75 rfl rfl (hB _)) (λa al=> ?_);refine wp_seq (wp_region ?_);refine al.mv hf.ops.h76 λa al=> ?_;refine al.mv hf.ops.h77 λa al=> ?_;refine al.st hf.ops.h78 (nT hf.ops.h78 hf.wG pu zH rfl rfl aah aah) λa al=> ?_;refine al.mv hf.ops.h79 λa al=> ?_;refine al.cz (v:=v2) hf.ops.h80 (Ej hf.ops.h80 rfl rfl (hC _)) λa al=> ?_;refine wp_seq (wp_region ?_);refine al.mv hf.ops.h81 λa al=> ?_;refine al.vd hf.ops.h82 λa al=> ?_;refine wp_ret ?_;show bodyPost P fn (λx wq=>x= .returned (.slice (some ⟨g,0,none⟩) (n+m) c)/\wq=w2) .ret a w2;refine Pj hf.res al (v:= .slice (some ⟨g,0,none⟩) (n+m) c) rfl ?_;exact ⟨rfl,rfl⟩
 grind [tm3]
theorem aU.take {xs:List MV}: ∀{cs:List Value} (i:Nat),aU key φ size cs xs->aU key φ size (cs.take (i *size)) (xs.take i):=by
 induction xs with
 |nil=>grind [aU]
 |cons x xs ih=>
  intro cs i h;obtain ⟨v,q,rfl,h1,h2,h3⟩:=h;cases i with
  |zero=>simp [aU]
  |succ i=>refine ⟨v,q.take (i *size),?_,h1,h2,ih i h3⟩;simp_all [ae9,Nat.one_mul,aja,alp,aed]
theorem aU.drop {xs:List MV}: ∀{cs:List Value} (i:Nat),aU key φ size cs xs->aU key φ size (cs.drop (i *size)) (xs.drop i):=by
 induction xs with
 |nil=>grind [aU]
 |cons x xs ih=>
  intro cs i h;cases i with
  |zero=>simpa using h
  |succ i=>obtain ⟨v,q,rfl,h1,h2,h3⟩:=h;rw [ae9,Nat.one_mul,aja,List.drop_append,h1,ajd aah,afu,Nat.add_sub_cancel_left];grind
end
section
variable {P:Program}{c:Ctx}{f:Nat}{W W':World}{φ:Ph}{Z:Nat->Prop}{v0 v':Value}
def Is {ty:Nat}{E:TI}{n:Nat}{cells:List Value}{rs:List MV}(hz: ∀b,W.heap.size<=b->Z b)(iu:ni φ W)(hE:c.ti ty=some E)(nR:E.bR=[])(FB:c.lq (c.key f)=ty)(hold: ∀b,b<W.heap.size->some b≠v0.ownBlock->W'.heap[b]? =W.heap[b]?)(uw:W.heap.size<=W'.heap.size)(vc:Rest W W')(ZP: ∀b,v0.ownBlock=some b->Z b/\ ∀off,φ b off=none)(dI:W'.ownsRow 0 ty E.size v' n cells)(hn:rs.length=n)(jk:aU c.key φ E.size cells rs)(TB: ∀b,v'.ownBlock=some b->v0.ownBlock=some b\/W.heap.size<=b): ∃φ',Trans Z φ W φ' W'/\ni φ' W'/\fA c Z φ' W' (c.key f) v' (.fresh rs):=by
 refine ⟨φ,⟨.refl _,?_,λ_ _ _=>rfl,uw,vc⟩,?_,?_⟩
 .grind
 .intro b off u hbo;have h1:=iu b off u hbo;have dh:=No W _ h1;rw [aeg (hold b dh (λhe=>by rw [(ZP b he.symm).2 off] at hbo;cases hbo))];exact h1
 .show bU c (bn.plain Z) (mT c.key φ) W' v' ⟨c.lq (c.key f),false,rs⟩;rw [FB];refine ⟨E,cells,hE,nR,by grind,jk,λaQ hb=> ?_⟩;rcases TB aQ hb with h|h
  .exact ⟨(ZP aQ h).1,λoff u hu=>(by have hu:φ aQ off=some u:=hu;grind),λhc=>hc.elim⟩
  .refine ⟨hz aQ h,λoff u hu=> ?_,λhc=>hc.elim⟩;have:=No W _ (iu _ _ _ hu);grind
def afq {A cD:List Value}{cells news:List Value}{p q r:Nat}(hA:A.length=cD.length)(hp:p+news.length=q)(hc:cells.length=r)(OO:p<=r)(BN:r+news.length<=cD.length)(h1:A.take p=cells.take p)(h2:(A.drop q).take (r-p)=cells.drop p):(A.take p++news++A.drop q).take (r+news.length)=cells.take p++news++cells.drop p:=by
 have hl:(A.take p).length=p:=by rw [IN];omega
 rw [alp,ab3,hl,hp,aed (by grind),h1];grind
theorem FC {t ti tb el fo:Nat}{fn:Func}{r:Nat->Nat}{o:Nat->Oper}{tail:Code}{I E:TI}{xs ys:List MV}{i:Nat}(hf:JX P f t ti tb el fo fn r o tail)(hT:fw P c.ti)(hI:c.tv t=some I)(hL:I.GN=true)(hE:c.tv I.elem=some E)(ru:1<=E.bytes)(hel:el=I.elem)(lC:P.underlying ti=some (.int .i64))(FB:c.lq (c.key f)=I.elem)(hg:c.bK (c.key f)=true)(hov: ∀args w,(callFunc fo args).run P w=((alq #[t,t] #[tb] args).run P w).andThen λv w'=> .ok (.value v) w')(hi:i<=xs.length)(hys:ys≠[])(oa:(xs.length+ys.length) *E.bytes<=2^46):dJ P c f [.fresh xs,.i .i64 i,.fresh ys] (.fresh (xs.take i++ys++xs.drop i)):=by
 subst hel;obtain ⟨hIt,SX⟩:=aM hI;obtain ⟨mn,nR⟩:=aM hE;obtain ⟨hu,E2,DI,_,fj⟩:=TI.kK (hT t I hIt) hL;rw [mn] at DI;cases DI;obtain ⟨ie,z,pu,zH,hby,hz0,OJ⟩:=kG (hT _ E mn) nR;intro φ W Z vs hz di iu;simp only [cv,hg,if_true] at di;obtain ⟨v0,v1,v2,xs',m1,ys',rfl,OU,F0,A1,F2,dt⟩:=di.resolve_right (by
  rintro (⟨_,_,_,_,_,m2,_,h1,h2,_⟩|⟨pos,_,_,_,_,_,_,_,h1,_⟩)
  .grind [MV.one]
  grind)
 simp only [ajh,MV.fresh.injEq,and_true] at OU;obtain ⟨rfl,rfl,rfl⟩:=OU;have hv1:v1= .int .i64 (i:Int):=by obtain ⟨_,h⟩:=A1;generalize DH:[v1]=l at h;cases h;simpa using DH
 subst hv1;rw [FB] at F0 F2;obtain ⟨I0,cells,hI0,_,wH,ve,NL⟩:=F0;have hI0:c.ti I.elem=some I0:=hI0;rw [mn] at hI0;cases hI0;obtain ⟨I2,news,Qk,_,Ni,zU,auM⟩:=F2;have Qk:c.ti I.elem=some I2:=Qk;rw [mn] at Qk;cases Qk;have wH:W.ownsRow 0 I.elem E.size v0 xs.length cells:=wH;have Ni:W.ownsRow 0 I.elem E.size v2 ys.length news:=Ni;have ve:aU c.key φ E.size cells xs:=ve;have zU:aU c.key φ E.size news ys:=zU;have ZP: ∀b,v0.ownBlock=some b->Z b/\ ∀off,φ b off=none:=by
  intro b hb;refine ⟨(NL b hb).1,λoff=> ?_⟩;cases h:φ b off with
  |none=>rfl
  |some u=>have:=((NL b hb).2.1 off u h).1;cases this
 have hm:0<ys.length:=List.length_pos_iff.2 hys;have Mh:news.length=ys.length *E.size:=zU.length;have BP:cells.length=xs.length *E.size:=ve.length;have hlen:xs.length+ys.length<=2^46:=aez (Nat.le_mul_of_pos_right _ ru) oa;obtain ⟨g2,c2,BO,rfl,hg2,axf,hc2,Il,ar8⟩: ∃g2 c2 BO,v2= .slice (some ⟨g2,0,none⟩) ys.length c2/\W.heap[g2]? =some (.cells BO I.elem (0,0))/\ys.length<=c2/\c2<=maxLen/\BO.size=c2 *E.size/\BO.toList.take (ys.length *E.size)=news:=by rcases Ni.2 with ⟨_,h0⟩|⟨g2,c2,BO,h1,_,h3,h4,h5,h6,h7⟩;all_goals grind
 have ar9:=a8 hg2;have anC: ∀{w:World},(w.heap[g2]? =W.heap[g2]?)-> ∀(j:Nat) (u:Value),news[j]? =some u->w.cell? ((⟨g2,0,none⟩:Addr).add j)=some u:=by intro w hw j u hj;have:=Ni.cells (g:=g2) rfl j u hj;rw [aei] at this⊢;rw [aeg hw];exact this
 have bE: ∀g,v0.ownBlock=some g-> ∀{w:World},(w.heap[g]? =W.heap[g]?)-> ∀(j:Nat) (u:Value),cells[j]? =some u->w.cell? ((⟨g,0,none⟩:Addr).add j)=some u:=by intro g hg w hw j u hj;have:=wH.cells (g:=g) hg j u hj;rw [aei] at this⊢;rw [aeg hw];exact this
 have bF:(callFunc f [v0,.int .i64 (i:Int),.slice (some ⟨g2,0,none⟩) ys.length c2].toArray).run P W= .ok (.enter f #[v0,.int .i64 (i:Int),.slice (some ⟨g2,0,none⟩) ys.length c2]) W:=by
  have Ik: ¬fn.name= "runtime.NumGoroutine" :=by simpa using hf.name
  simp [callFunc,hf.pos,Ik,hf.body]
 unfold da;rw [bF];have hrl:(xs.take i++ys++xs.drop i).length=xs.length+ys.length:=by simp;omega
 have RC:aU c.key φ E.size (cells.take (i *E.size)++news++cells.drop (i *E.size)) (xs.take i++ys++xs.drop i):=((ve.take i).append zU).append (ve.drop i);by_cases zY:i=xs.length
 .
  have zX:Src (mT c.key φ) W E.size (.slice (some ⟨g2,0,none⟩) ys.length c2) ys news:=⟨zU,_,_,rfl,aaS,(by grind)⟩
  have pk:cells.take (i *E.size)++news++cells.drop (i *E.size)=cells++news:=by rw [zY,<-BP,alr,List.drop_length,alw]
  rw [pk] at RC;have fin: ∀v' W',amr W W' I.elem E.size v0 v' xs.length ys.length cells news-> ∃φ',Trans Z φ W φ' W'/\ni φ' W'/\fA c Z φ' W' (c.key f) v' (.fresh (xs.take i++ys++xs.drop i)):=by
   intro v' W' wo;refine Is (v0:=v0) hz iu mn nR FB wo.qo wo.size wo.rest ZP wo.own hrl RC ?_;intro b hb;rcases wo.place with h|h
   .grind
   .grind
  have ⟨v',W',hr,wo⟩:=CM (P:=P) (c:=c) (ty:=0) hu mn nR fj hT ru wH (zX.apx hu) oa;have hr': ∀ty,(aey #[t,t] ty #[v0,.slice (some ⟨g2,0,none⟩) ys.length c2]).run P W= .ok v' W':=λty=>hr;have asa: ∃ad c0,v0= .slice ad xs.length c0/\xs.length<=c0/\c0<=maxLen:=by
   rcases wH.2 with ⟨h1,h0⟩|⟨g,c0,cD,h1,_,h3,h4,h5,_⟩
   .grind
   .grind
  obtain ⟨ad,c0,rfl,TE,HF⟩:=asa;refine (afp hf pu zH hm TE (by grind [maxLen]) aah zY hr').mono ?_;rintro x Fo ⟨rfl,rfl⟩;exact ⟨_,rfl,fin _ _ wo⟩
 .have zY:i<xs.length:=aah
  obtain ⟨g,c0,cD,rfl,hgc,TE,HF,xu,SY⟩: ∃g c0 cD,v0= .slice (some ⟨g,0,none⟩) xs.length c0/\W.heap[g]? =some (.cells cD I.elem (0,0))/\xs.length<=c0/\c0<=maxLen/\cD.size=c0 *E.size/\cD.toList.take (xs.length *E.size)=cells:=by rcases wH.2 with ⟨_,h0⟩|⟨g,c0,cD,h1,_,h3,h4,h5,h6,h7⟩;all_goals grind
  have hgl:=a8 hgc;have hgg:g≠g2:=λh=>dt g rfl (by rw [h];rfl);have wh:i *E.size<=xs.length *E.size:=ad7 _ hi;have him:(i+ys.length) *E.size=i *E.size+news.length:=by rw [ae9,Mh]
  have hnm:(xs.length+ys.length) *E.size=xs.length *E.size+news.length:=by rw [ae9,Mh]
  have Rl:(cells.drop (i *E.size)).length=(xs.length-i) *E.size:=by rw [ad8,BP,aia]
  have axg:(xs.length-i) *E.size=xs.length *E.size-i *E.size:=aia _ _ _;have ahV: ∀{w:World},(w.heap[g]? =W.heap[g]?)-> ∀(j:Nat) (u:Value),(cells.drop (i *E.size))[j]? =some u->w.cell? ((⟨g,i *E.size,none⟩:Addr).add j)=some u:=by intro w hw j u hj;rw [aev] at hj;have:=bE g rfl hw _ u hj;rw [aei] at this⊢;rwa [agt] at this
  have ho1: ∀u∈cells.drop (i *E.size),u.oneCell'=true:=λu hu=>ve.zW u (List.mem_of_mem_drop hu);have anD:Rest W {W with drawn:=W.drawn+1}:=⟨rfl,rfl,rfl⟩
  by_cases uV:c0<xs.length+ys.length
  .have hk:i+(xs.length+ys.length-i)=xs.length+ys.length:=aah
   obtain ⟨G,hG⟩: ∃G,G=grownCap W (xs.length+ys.length) c0 I.elem:=⟨_,rfl⟩
   have hGn:xs.length+ys.length<=G:=by rw [hG];exact grownCap_ge W _ _ _
   have hGm:G<=maxLen:=by rw [hG];exact (by grind [grownCap_le_maxLen,maxLen])
   obtain ⟨Qo,anE⟩: ∃Qo:Array Value,Qo=(cells.take (i *E.size)).toArray++ad3 z.cells (xs.length+ys.length-i)++ad3 z.cells (G-(xs.length+ys.length)):=⟨_,rfl⟩
   have hRl:Qo.size=G *E.size:=by rw [anE];simp only [Array.size_append,agv,IN,ad3,Array.size_map,Array.size_range,OJ];rw [afK (by grind),<-ae9,<-ae9];congr 1;omega
   have hRt:Qo.toList.take (i *E.size)=cells.take (i *E.size):=by
    rw [anE];simp only [Array.toList_append,ae8];have hl:(cells.take (i *E.size)).length=i *E.size:=by rw [IN,BP];exact afK wh
    rw [aeh aah,aed aah]
   have hA: ∀ty,(aey #[t,ti] ty #[.slice (some ⟨g,0,none⟩) i c0,.int .i64 ((xs.length+ys.length-i:Nat):Int)]).run P W= .ok (.slice (some ⟨W.heap.size,0,none⟩) (xs.length+ys.length) G) (W.drew.alloc (.cells Qo I.elem)):=λty=>by
    have hold:(alj ie.size i (.slice (some ⟨g,0,none⟩) i c0)).run P W.drew= .ok (cells.take (i *E.size)).toArray W.drew:=by
     refine run_firstCells_some W.drew ie.size i ⟨g,0,none⟩ i c0 _ (by grind) (λj v hj=> ?_);rw [ae1] at hj;split at hj
     .exact bE g rfl rfl j v hj
     .cases hj
    have h:=Lib.run_append_grow_zeros W t ti ty I.elem ie z .i64 .i64 hu lC pu hz0 (some ⟨g,0,none⟩) i c0 (cells.take (i *E.size)) hold (xs.length+ys.length-i) aah (by grind) aah aah (by exact aez (ad7 _ (by omega:xs.length+ys.length-i<=xs.length+ys.length)) (by grind)) (by rw [hby,hk];exact growslice_fits uV (by grind));grind
   have hg9:(W.drew.alloc (.cells Qo I.elem)).heap[W.heap.size]? =some (.cells Qo I.elem (0,0)):=fL W.drew _;have Iq: ∀b,b<W.heap.size->(W.drew.alloc (.cells Qo I.elem)).heap[b]? =W.heap[b]? :=λb hb=>nb W.drew _ b hb;have hnG:(xs.length+ys.length) *E.size<=Qo.size:=by rw [hRl];exact ad7 _ hGn
   obtain ⟨RA,hRA⟩: ∃RA:List Value,RA=Qo.toList.take (i *E.size)++news++Qo.toList.drop (i *E.size+news.length):=⟨_,rfl⟩
   have axj:RA.length=Qo.size:=by rw [hRA];simp only [ab3,IN,ad8,ad2];omega
   have hB: ∀ty,(aen #[t,t] ty #[.slice (some ⟨W.heap.size,i *E.size,none⟩) (xs.length+ys.length-i) (G-i),.slice (some ⟨g2,0,none⟩) ys.length c2]).run P (W.drew.alloc (.cells Qo I.elem))= .ok (goInt ((ys.length:Nat):Int)) (aeF (W.drew.alloc (.cells Qo I.elem)) W.heap.size RA.toArray):=λty=>by rw [hRA];exact qq (size:=E.size) hu pu zH hg9 (by grind) Mh (anC (Iq g2 ar9)) aah zU.zW
   have ajX:=setRow_heap (W.drew.alloc (.cells Qo I.elem)) W.heap.size Qo RA.toArray I.elem (0,0) hg9;obtain ⟨W2,RD⟩: ∃W2,W2=aeF (W.drew.alloc (.cells Qo I.elem)) W.heap.size RA.toArray:=⟨_,rfl⟩
   have anF: ∀b,b<W.heap.size->W2.heap[b]? =W.heap[b]? :=(by grind [setRow_other])
   have Ue:Rest W W2:=by rw [RD];exact (show Rest W W.drew from ⟨rfl,rfl,rfl⟩).trans ((Rest.alloc W.drew Qo I.elem).trans (Rest.setRow _ _ _))
   have axk:W2.heap.size=W.heap.size+1:=by rw [RD,setRow_size];exact Array.size_push _
   rw [<-RD] at hB ajX;have hC:=λty=>qq (P:=P) (dT:=t) (sT:=t) (ty:=ty) (size:=E.size) (afm:=xs.length+ys.length-(i+ys.length)) (ajU:=G-(i+ys.length)) (pH:=xs.length-i) (zg:=c0-i) (k:=xs.length-i) (o:=(i+ys.length) *E.size) (a:=⟨g,i *E.size,none⟩) (w:={W2 with drawn:=W2.drawn+1}) hu pu zH ajX (by grind) Rl (ahV (anF g hgl)) (by grind) ho1;refine (abS hf pu zH hm TE (by grind) aah zY uV hGn hA hB hC).mono ?_;rintro x Fo ⟨rfl,rfl⟩;refine ⟨_,rfl,?_⟩;refine Is (v0:= .slice (some ⟨g,0,none⟩) xs.length c0) (n:=xs.length+ys.length) (cells:=cells.take (i *E.size)++news++cells.drop (i *E.size)) hz iu mn nR FB ?_ ?_ ?_ ZP ?_ hrl RC (λb hb=> .inr (by cases hb;grind))
   .grind [setRow_other]
   .rw [setRow_size];grind
   .exact Ue.trans ((show Rest W2 {W2 with drawn:=W2.drawn+1} from ⟨rfl,rfl,rfl⟩).trans (Rest.setRow _ _ _))
   .refine ⟨by grind,.inr ⟨W.heap.size,G,_,rfl,aef _,setRow_heap {W2 with drawn:=W2.drawn+1} W.heap.size RA.toArray _ I.elem (0,0) ajX,hGn,hGm,?_,?_⟩⟩
    .simp;omega
    .have uR:(cells.take (i *E.size)++news++cells.drop (i *E.size)).length=(xs.length+ys.length) *E.size:=by rw [RC.length,hrl]
     grind
  .have uV:xs.length+ys.length<=c0:=aah
   have hcz:cD.toList.length=cD.size:=ad2;have BN:(xs.length+ys.length) *E.size<=cD.size:=by rw [xu];exact ad7 _ uV
   have hO:(callFunc fo #[.slice (some ⟨g2,0,none⟩) ys.length c2,.slice (some ⟨g,(i+ys.length) *E.size,none⟩) (xs.length+ys.length-(i+ys.length)) (c0-(i+ys.length))]).run P W= .ok (.value (.bool false)) W:=by rw [hov,Lib.run_overlaps_apart W t tb I.elem hu E.size (λw=>by simp_all [afS,typeInfo]) ⟨g2,0,none⟩ ⟨g,(i+ys.length) *E.size,none⟩ _ _ _ _ (Ne.symm hgg) I.elem I.elem BO.size cD.size (by grind [World.shape?]) (by grind [World.shape?]) (by rw [xu];exact Nat.ne_of_gt (Nat.mul_pos aah fj)) (by grind [World.frozen?]) (by grind [World.frozen?])];rfl
   let R1:List Value:=cD.toList.take ((i+ys.length) *E.size)++cells.drop (i *E.size)++cD.toList.drop ((i+ys.length) *E.size+(cells.drop (i *E.size)).length);have hR1:R1.length=cD.size:=by simp only [R1,ab3,IN,ad8,ad2];rw [Rl] at *;omega
   have hB: ∀ty,(aen #[t,t] ty #[.slice (some ⟨g,(i+ys.length) *E.size,none⟩) (xs.length+ys.length-(i+ys.length)) (c0-(i+ys.length)),.slice (some ⟨g,i *E.size,none⟩) (xs.length+ys.length-i) (c0-i)]).run P {W with drawn:=W.drawn+1}= .ok (goInt ((xs.length-i:Nat):Int)) (aeF {W with drawn:=W.drawn+1} g R1.toArray):=λty=>qq (size:=E.size) hu pu zH (w:={W with drawn:=W.drawn+1}) hgc (by grind) Rl (ahV rfl) (by grind) ho1;have asc:(aeF {W with drawn:=W.drawn+1} g R1.toArray).heap[g]? =some (.cells R1.toArray I.elem (0,0)):=setRow_heap {W with drawn:=W.drawn+1} g cD R1.toArray I.elem (0,0) hgc;have anF: ∀b,b≠g->(aeF {W with drawn:=W.drawn+1} g R1.toArray).heap[b]? =W.heap[b]? :=λb hb=>setRow_other {W with drawn:=W.drawn+1} g b R1.toArray hb;have hC:=λty=>qq (P:=P) (dT:=t) (sT:=t) (ty:=ty) (size:=E.size) (afm:=xs.length+ys.length-i) (ajU:=c0-i) (pH:=ys.length) (zg:=c2) (k:=ys.length) (o:=i *E.size) (a:=⟨g2,0,none⟩) hu pu zH asc (by grind) Mh (by grind) (by grind) zU.zW;refine (abT hf pu zH hm TE (by grind [maxLen]) aah zY uV hO hB hC).mono ?_;rintro x Fo ⟨rfl,rfl⟩;refine ⟨_,rfl,?_⟩;rw [setRow_setRow];have vc:Rest W (aeF {W with drawn:=W.drawn+1} g (R1.toArray.toList.take (i *E.size)++news++R1.toArray.toList.drop (i *E.size+news.length)).toArray):=anD.trans (Rest.setRow _ _ _);refine Is (v0:= .slice (some ⟨g,0,none⟩) xs.length c0) (n:=xs.length+ys.length) (cells:=cells.take (i *E.size)++news++cells.drop (i *E.size)) hz iu mn nR FB ?_ aaS vc ZP ?_ hrl RC (λb hb=> .inl hb)
   .intro b hb dt;refine setRow_other {W with drawn:=W.drawn+1} g b _ (λh=>dt ?_);rw [h];rfl
   .refine ⟨by grind,.inr ⟨g,c0,_,rfl,aef _,setRow_heap {W with drawn:=W.drawn+1} g cD _ I.elem (0,0) hgc,uV,HF,?_,?_⟩⟩
    .simp;omega
    .rw [hnm];refine afq (cD:=cD.toList) (r:=xs.length *E.size) (by grind) rfl BP wh (by grind) ?_ ?_
     .rw [<-SY,ajW,afK wh];simp only [R1];rw [ae8,aeh (by rw [IN,hcz];omega),ajW,afK aah]
     .grind
end
structure eO (o:Oper) (op:Op):Prop where
 dst:o.dst=none
 op:o.op=op
 guard:o.guard=none
section
variable {P:Program}{Q:Exit->Act->World->Prop}{ops:Array Oper}{o:Oper}{a:Act}{w w':World}{n:Nat}{σ:Nat->Value}
def Tm.ahW {i:Nat}{op:Op}{rest:List Nat}{v:Value}(al:Tm a n σ)(hi:ops[i]? =some o)(ho:eO o op)(bF:(execOp (ev σ) o).run P w= .ok (.value v) w')(h:wpOps P ops Q rest a w'):wpOps P ops Q (i::rest) a w:=by refine s7 hi ho.guard (v:=v) (w':=w') (by grind [al.eval]) ?_;rw [ho.dst];exact h
def JY (ops:Array Oper):Nat->Nat->Array Bool->Bool
 |0,i,listed=>(sh .any ops listed==[i])&&(sh .any ops (listed.setIfInBounds i true)==[i+1])&&(sh .any ops ((listed.setIfInBounds i true).setIfInBounds (i+1) true)).isEmpty
 |k+1,i,listed=>Region.free .any ops listed i&&(sh .any ops listed).contains i&&JY ops k (i+1) (listed.setIfInBounds i true)
def Uf (ops:Array Oper):Bool:=ahK ops&&Nat.blt 1 ops.size&&JY ops (ops.size-2) 0 (AI ops.size false)
structure Pk (ops:Array Oper) (k i:Nat) (listed:Array Bool):Prop where
 sel:ahK ops=true
 ord:JY ops k i listed=true
def Tm.NM {N:Act->World->Prop}{i d:Nat}{op:Op}{k:Nat}{listed:Array Bool}{v:Value}(al:Tm a n σ)(hi:ops[i]? =some o)(ho:ai o d op)(hd:d<n)(hb:Pk ops (k+1) i listed)(bF: ∀w,(execOp (ev σ) o).run P w= .ok (.value v) w)(h: ∀a',Tm a' n (lp σ d v)->Pk ops k (i+1) (listed.setIfInBounds i true)->wpAny P .any ops (oq N) (k+2) (listed.setIfInBounds i true) a' w):wpAny P .any ops (oq N) (k+3) listed a w:=by have ⟨hs,hb⟩:=hb;simp only [JY,bo] at hb;have ⟨⟨h1,h2⟩,h3⟩:=hb;refine wpAny_take hi hs h1 h2 (λc a w hq=>hq.elim) (v:=v) (.inl (by grind [BY,ho.guard,al.eval])) ?_;rw [ho.dst];exact h _ (al.put hd v) ⟨hs,h3⟩
def Tm.anG {N:Act->World->Prop}{i d d2:Nat}{op op2:Op}{o2:Oper}{listed:Array Bool}{v v2:Value}(al:Tm a n σ)(hi:ops[i]? =some o)(ho:ai o d op)(hd:d<n)(hi2:ops[i+1]? =some o2)(cV:ai o2 d2 op2)(hd2:d2<n)(hb:Pk ops 0 i listed)(bF:(execOp (ev σ) o).run P w= .ok (.value v) w')(NI:(execOp (ev (lp σ d v)) o2).run P w'= .ok (.value v2) w')(h: ∀a',Tm a' n (lp (lp σ d v) d2 v2)->N a' w'):wpAny P .any ops (oq N) 2 listed a w:=by have ⟨hs,hb⟩:=hb;simp only [JY,bo,List.isEmpty_iff,beq_iff_eq] at hb;have ⟨⟨h1,h2⟩,h3⟩:=hb;refine wpAny_all h1 aaS ?_;intro j hj;simp at hj;subst hj;unfold wpOp;simp only [hi,BY,ho.guard,if_true];left;unfold ahP;rw [al.eval,bF,afA,ho.dst];have abV:=al.put hd v;refine wpAny_all h2 aaS ?_;intro q hq;simp at hq;subst hq;unfold wpOp;simp only [hi2,BY,cV.guard,if_true];left;unfold ahP;rw [abV.eval,NI,afA,cV.dst];exact wpAny_done h3 (h _ (abV.put hd2 v2)) 0
def abW {id k:Nat}(hm:P.follows .mixedOrders=true)(hb:Uf ops=true)(hk:ops.size=k+2)(h:Pk ops k 0 (AI (k+2) false)->wpAny P .any ops (oq λa w=>Q .normal a w) (k+2) (AI (k+2) false) a {w with drawn:=w.drawn+1}): (als id ops true).wp P Q a w:=by simp only [Uf,bo] at hb;rw [hk] at hb;refine ahR ?_ (wp_region_any (Q:=oq λa w=>Q .normal a w) hm (by rw [hk];exact h ⟨hb.1.1,hb.2⟩));intro x a' w' hx;cases x<;>first|exact hx|exact hx.elim
def NN {d:Nat}{t el:TypeId}{x y z m3:Operand}{e:Operand->Value}{ad:Option Addr}{m c l h k:Nat}{i:TypeInfo}(ho:ai o d (.slice t x (some y) (some z) (some m3)))(hu:P.underlying t=some (.slice el))(hi:P.info? el=some i)(hx:e x= .slice ad m c)(hy:e y= .int .i64 l)(hz:e z= .int .i64 h)(hm:e m3= .int .i64 k)(h1:l<=h)(h2:h<=k)(h3:k<=c)(w:World):(execOp e o).run P w= .ok (.value (.slice (if k=l then ad else ad.map (·.add (l *i.size))) (h-l) (k-l))) w:=by simp [execOp,ho.op,aiS,ajM,run_underlying hu,hx,hy,hz,hm,afS,typeInfo,hi,agc,ahs,asIntOf,h1,h2,h3]
def RE {d:Nat}{t el:TypeId}{x y z:Operand}{e:Operand->Value}{ad:Option Addr}{m c l h size:Nat}{i:TypeInfo}(ho:ai o d (.slice t x (some y) (some z) none))(hu:P.underlying t=some (.slice el))(hi:P.info? el=some i)(hs:i.size=size)(hx:e x= .slice ad m c)(hy:e y= .int .i64 l)(hz:e z= .int .i64 h)(h1:l<=h)(h2:h<=c)(w:World):(execOp e o).run P w= .ok (.value (.slice (if c=l then ad else ad.map (·.add (l *size))) (h-l) (c-l))) w:=by simp [execOp,ho.op,aiS,ajM,run_underlying hu,hx,hy,hz,afS,typeInfo,hi,hs,agc,ahs,asIntOf,h1,h2]
def Wm {x:Operand}{t1:TypeId}{e:Operand->Value}{v1 v:Value}(ho:eO o (.call {callee:= .builtin .clear,args:= #[x],argTypes:= #[t1]})) (hx:e x=v1) (h:(ahe #[t1] o.type #[v1]).run P w= .ok v w'):(execOp e o).run P w= .ok (.value v) w':=by simp [execOp,ho.op,resolve,invoke,builtin,hx,h]
def Ae {t ty elem t2:TypeId}{g off n c size:Nat}{z:Value}{cD:Array Value}{i:TypeInfo}(hu:P.underlying t=some (.slice elem))(hi:P.info? elem=some i)(hz:i.zero=some z)(OJ:z.cells.size=size)(h1: ∀v∈z.cells.toList,v.oneCell'=true)(hg:w.heap[g]? =some (.cells cD t2 (0,0)))(hn:0<n)(BN:off+n *size<=cD.size): ∃zs:List Value,zs.length=n *size/\(ahe #[t] ty #[.slice (some ⟨g,off,none⟩) n c]).run P w= .ok (.tuple #[]) (w.setRow g (cD.toList.take off++zs++cD.toList.drop (off+zs.length)).toArray):=by
 refine ⟨(ad3 z.cells n).toList,?_,?_⟩
 .grind [ad3]
 .have hl:(ad3 z.cells n).toList.length=n *size:=by simp [ad3,OJ]
  have eh:=run_storeCells_at P g off t2 (ad3 z.cells n).toList 0 cD w hg (by grind) (by
   intro v hv;simp only [ad3,ai2,alk,Array.mem_toList_iff,Array.mem_range] at hv;obtain ⟨j,hj,rfl⟩:=hv;have fj:0<z.cells.size:=by
    rcases Nat.eq_zero_or_pos z.cells.size with h0|h0
    .grind
    .exact h0
   have dh:j%z.cells.size<z.cells.size:=Nat.mod_lt _ fj;grind)
  obtain ⟨m,rfl⟩: ∃m,n=m+1:=⟨n-1,aah⟩
  simp_all [ahe,run_underlying,zeroValue,typeInfo]
end
theorem iy {w:World}{g:Nat}{cD:Array Value}{t:TypeId}{fr:Nat×Nat}(cs:Array Value)(hg:w.heap[g]? =some (.cells cD t fr)):(w.setRow g cs).heap[g]? =some (.cells cs t fr):=by simp [aeF,Array.getElem?_modify,hg]
def Ek (r:Nat->Nat)(o:Nat->Oper):Code:= .seq (.region (r 0) #[o 0] false) (.seq (.region (r 1) #[o 1,o 2,o 3,o 4,o 5,o 6] false) (.seq (.seq (.region (r 2) #[o 7,o 8,o 9] false) (.cond (.tmp 16) (.seq (.region (r 3) #[o 10,o 11] false) .ret) .skip)) (.seq (.region (r 4) #[o 12,o 13,o 14] false) (.seq (.region (r 5) #[o 15,o 16,o 17,o 18,o 19,o 20,o 21,o 22] true) (.seq (.region (r 6) #[o 23,o 24,o 25,o 26,o 27,o 28] false) (.seq (.region (r 7) #[o 29,o 30] false) .ret))))))
structure ajY (t ti:Nat) (o:Nat->Oper):Prop where
 h0:ai (o 0) 6 (.assign (.const (.slice none 0 0)))
 h1:ai (o 1) 8 (.move (.tmp 0))
 h2:ai (o 2) 9 (.move (.tmp 1))
 h3:ai (o 3) 10 (.move (.tmp 2))
 h4:ai (o 4) 11 (.move (.tmp 0))
 h5:ai (o 5) 12 (.call {callee:= .builtin .len,args:= #[.tmp 11],argTypes:= #[t]})
 h6:ai (o 6) 13 (.slice t (.tmp 8) (some (.tmp 9)) (some (.tmp 10)) (some (.tmp 12)))
 h7:ai (o 7) 14 (.move (.tmp 1))
 h8:ai (o 8) 15 (.move (.tmp 2))
 h9:ai (o 9) 16 (.binOp .eql ti (.tmp 14) (.tmp 15) ti)
 Fz:ai (o 10) 17 (.move (.tmp 0))
 Mr:ai (o 11) 6 (.assign (.tmp 17))
 LY:ai (o 12) 18 (.move (.tmp 0))
 JW:ai (o 13) 19 (.call {callee:= .builtin .len,args:= #[.tmp 18],argTypes:= #[t]})
 Pe:ai (o 14) 7 (.assign (.tmp 19))
 LZ:ai (o 15) 20 (.move (.tmp 0))
 Ir:ai (o 16) 21 (.move (.tmp 1))
 Pf:ai (o 17) 22 (.slice t (.tmp 20) none (some (.tmp 21)) none)
 Qm:ai (o 18) 23 (.move (.tmp 0))
 Rz:ai (o 19) 24 (.move (.tmp 2))
 S3:ai (o 20) 25 (.slice t (.tmp 23) (some (.tmp 24)) none none)
 Qn:ai (o 21) 26 (.call {callee:= .builtin .append,args:= #[.tmp 22,.tmp 25],argTypes:= #[t,t]})
 S4:ai (o 22) 0 (.assign (.tmp 26))
 Pg:ai (o 23) 27 (.move (.tmp 0))
 RB:ai (o 24) 28 (.move (.tmp 0))
 NK:ai (o 25) 29 (.call {callee:= .builtin .len,args:= #[.tmp 28],argTypes:= #[t]})
 Ua:ai (o 26) 30 (.move (.tmp 7))
 X9:ai (o 27) 31 (.slice t (.tmp 27) (some (.tmp 29)) (some (.tmp 30)) none)
 Wg:eO (o 28) (.call {callee:= .builtin .clear,args:= #[.tmp 31],argTypes:= #[t]})
 Wh:ai (o 29) 32 (.move (.tmp 0))
 ZT:ai (o 30) 6 (.assign (.tmp 32))
 d5:Uf #[o 15,o 16,o 17,o 18,o 19,o 20,o 21,o 22]=true
structure RF (P:Program) (f t ti el:Nat) (fn:Func) (r:Nat->Nat) (o:Nat->Oper):Prop where
 pos:P.funcs[f]? =some fn
 name:(fn.name== "runtime.NumGoroutine")=false
 tmps:fn.ntmps=33
 res:fn.results= #[.tmp 6]
 body:fn.body=some (Ek r o)
 ops:ajY t ti o
 mix:P.follows .mixedOrders=true
 wG:P.underlying t=some (.slice el)
section
variable {P:Program}{f t ti el:Nat}{fn:Func}{r:Nat->Nat}{o:Nat->Oper}{ie:TypeInfo}{size n c i j g:Nat}{ad:Option Addr}{w:World}
def Wn {a:Act}{w:World} {σ:Nat->Value}{R:Ending->World->Prop}{v:Value}(hr:fn.results= #[.tmp 6])(al:Tm a 33 σ)(h6:σ 6=v)(h:R (.returned v) w):bodyPost P fn R .ret a w:=by
 refine ⟨al.defers,v,?_,h⟩;have h2:a.tmps[6]?.getD undef=v:=by have:=al.get 6;rw [h6] at this;simpa using this
 simp_all [results]
def abX (hf:RF P f t ti el fn r o)(pu:P.info? el=some ie)(hn:n<=c)(hi:i<=n): Calls P f #[.slice ad n c,.int .i64 ((i:Nat):Int),.int .i64 ((i:Nat):Int)] w λx w'=>x= .returned (.slice ad n c)/\w'=w:=by
 refine calls_of_wp hf.pos hf.body ?_;rw [hf.tmps];have key: ∀a:Act,Tm a 33 (lp (lp (lp (λ_=>undef) 0 (.slice ad n c)) 1 (.int .i64 ((i:Nat):Int))) 2 (.int .i64 ((i:Nat):Int)))->(Ek r o).wp P (bodyPost P fn λx w'=>x= .returned (.slice ad n c)/\w'=w) a w:=by intro a al;unfold Ek;refine wp_seq (wp_region ?_);refine al.vd hf.ops.h0 λa al=> ?_;refine wp_seq (wp_region ?_);refine al.mv hf.ops.h1 λa al=> ?_;refine al.mv hf.ops.h2 λa al=> ?_;refine al.mv hf.ops.h3 λa al=> ?_;refine al.mv hf.ops.h4 λa al=> ?_;refine al.st hf.ops.h5 (mq hf.ops.h5 hf.wG rfl) λa al=> ?_;refine al.step rfl hf.ops.h6 aaD (NN hf.ops.h6 hf.wG pu rfl rfl rfl rfl (ad1 _) hi hn _) (λa al=> ?_);refine wp_seq ?_;refine wp_seq (wp_region ?_);refine al.mv hf.ops.h7 λa al=> ?_;refine al.mv hf.ops.h8 λa al=> ?_;refine al.st hf.ops.h9 (nk hf.ops.h9 rfl rfl) λa al=> ?_;refine al.cond (b:=true) (by show aec (decide (((i:Nat):Int)=((i:Nat):Int)))=_;grind) ?_;simp only [if_true];refine wp_seq (wp_region ?_);refine al.mv hf.ops.Fz λa al=> ?_;refine al.vd hf.ops.Mr λa al=> ?_;refine wp_ret ?_;show bodyPost P fn (λx wq=>x= .returned (.slice ad n c)/\wq=w) .ret a w;refine Wn hf.res al (v:= .slice ad n c) rfl ?_;exact ⟨rfl,rfl⟩
 grind [tm3]
theorem abY (hf:RF P f t ti el fn r o)(pu:P.info? el=some ie)(zH:ie.size=size)(hn:n<=c)(ZF:i<j)(hj:j<=n){w1 w2:World}(hA: ∀ty,(aey #[t,t] ty #[.slice (some ⟨g,0,none⟩) i c,.slice (if c=j then (some ⟨g,0,none⟩:Option Addr) else some ⟨g,j *size,none⟩) (n-j) (c-j)]).run P {w with drawn:=w.drawn+1}= .ok (.slice (some ⟨g,0,none⟩) (i+(n-j)) c) w1) (hC: ∀ty,(ahe #[t] ty #[.slice (some ⟨g,(i+(n-j)) *size,none⟩) (n-(i+(n-j))) (c-(i+(n-j)))]).run P w1= .ok (.tuple #[]) w2): Calls P f #[.slice (some ⟨g,0,none⟩) n c,.int .i64 ((i:Nat):Int),.int .i64 ((j:Nat):Int)] w λx w'=>x= .returned (.slice (some ⟨g,0,none⟩) (i+(n-j)) c)/\w'=w2:=by
 refine calls_of_wp hf.pos hf.body ?_;rw [hf.tmps];have h0: ∀l:Nat,(⟨g,0,none⟩:Addr).add l=⟨g,l,none⟩:=λl=>by simp_all [aei,agt]
 have key: ∀a:Act,Tm a 33 (lp (lp (lp (λ_=>undef) 0 (.slice (some ⟨g,0,none⟩) n c)) 1 (.int .i64 ((i:Nat):Int))) 2 (.int .i64 ((j:Nat):Int)))->(Ek r o).wp P (bodyPost P fn λx w'=>x= .returned (.slice (some ⟨g,0,none⟩) (i+(n-j)) c)/\w'=w2) a w:=by intro a al;unfold Ek;refine wp_seq (wp_region ?_);refine al.vd hf.ops.h0 λa al=> ?_;refine wp_seq (wp_region ?_);refine al.mv hf.ops.h1 λa al=> ?_;refine al.mv hf.ops.h2 λa al=> ?_;refine al.mv hf.ops.h3 λa al=> ?_;refine al.mv hf.ops.h4 λa al=> ?_;refine al.st hf.ops.h5 (mq hf.ops.h5 hf.wG rfl) λa al=> ?_;refine al.step rfl hf.ops.h6 aaD (NN hf.ops.h6 hf.wG pu rfl rfl rfl rfl (Nat.le_of_lt ZF) hj hn _) (λa al=> ?_);refine wp_seq ?_;refine wp_seq (wp_region ?_);refine al.mv hf.ops.h7 λa al=> ?_;refine al.mv hf.ops.h8 λa al=> ?_;refine al.st hf.ops.h9 (nk hf.ops.h9 rfl rfl) λa al=> ?_;refine al.cond (b:=false) (by show aec (decide (((i:Nat):Int)=((j:Nat):Int)))=_;grind [decide_eq_false]) ?_;simp only [AS,if_false];refine wp_skip ?_;refine wp_seq (wp_region ?_);refine al.mv hf.ops.LY λa al=> ?_;refine al.st hf.ops.JW (mq hf.ops.JW hf.wG rfl) λa al=> ?_;refine al.vd hf.ops.Pe λa al=> ?_;refine wp_seq (abW hf.mix hf.ops.d5 (k:=6) rfl λfR=> ?_);refine al.NM (v:= .slice (some ⟨g,0,none⟩) n c) rfl hf.ops.LZ aaD fR (λw=>j6 hf.ops.LZ _) (λa al fR=> ?_);refine al.NM (v:= .int .i64 ((i:Nat):Int)) rfl hf.ops.Ir aaD fR (λw=>j6 hf.ops.Ir _) (λa al fR=> ?_);refine al.NM (v:= .slice (some ⟨g,0,none⟩) i c) rfl hf.ops.Pf aaD fR (λw=>Ei hf.ops.Pf hf.wG pu zH rfl rfl aah _) (λa al fR=> ?_);refine al.NM (v:= .slice (some ⟨g,0,none⟩) n c) rfl hf.ops.Qm aaD fR (λw=>j6 hf.ops.Qm _) (λa al fR=> ?_);refine al.NM (v:= .int .i64 ((j:Nat):Int)) rfl hf.ops.Rz aaD fR (λw=>j6 hf.ops.Rz _) (λa al fR=> ?_);refine al.NM (v:= .slice (if c=j then (some ⟨g,0,none⟩:Option Addr) else some ⟨g,j *size,none⟩) (n-j) (c-j)) rfl hf.ops.S3 aaD fR (λw=>by refine (Ad (P:=P) hf.ops.S3 hf.wG pu zH (ad:=some ⟨g,0,none⟩) (m:=n) (c:=c) (l:=j) rfl rfl hj w).trans ?_;grind) (λa al fR=> ?_);refine al.anG (v:= .slice (some ⟨g,0,none⟩) (i+(n-j)) c) (v2:= .slice (some ⟨g,0,none⟩) (i+(n-j)) c) rfl hf.ops.Qn aaD rfl hf.ops.S4 aaD fR (JV hf.ops.Qn rfl rfl (hA _)) (Bg hf.ops.S4 _) (λa al=> ?_);refine wp_seq (wp_region ?_);refine al.mv hf.ops.Pg λa al=> ?_;refine al.mv hf.ops.RB λa al=> ?_;refine al.st hf.ops.NK (mq hf.ops.NK hf.wG rfl) λa al=> ?_;refine al.mv hf.ops.Ua λa al=> ?_;refine al.step (v:= .slice (some ⟨g,(i+(n-j)) *size,none⟩) (n-(i+(n-j))) (c-(i+(n-j)))) rfl hf.ops.X9 aaD (by refine (RE (P:=P) hf.ops.X9 hf.wG pu zH (ad:=some ⟨g,0,none⟩) (m:=i+(n-j)) (c:=c) (l:=i+(n-j)) (h:=n) rfl rfl rfl aah aah w1).trans ?_;rw [if_neg (by grind)];rw [show (some (⟨g,0,none⟩:Addr)).map (·.add ((i+(n-j)) *size))=some ⟨g,(i+(n-j)) *size,none⟩ from congrArg some (h0 _)]) (λa al=> ?_);refine al.ahW (v:= .tuple #[]) rfl hf.ops.Wg (Wm hf.ops.Wg rfl (hC _)) ?_;refine wp_seq (wp_region ?_);refine al.mv hf.ops.Wh λa al=> ?_;refine al.vd hf.ops.ZT λa al=> ?_;refine wp_ret ?_;show bodyPost P fn (λx wq=>x= .returned (.slice (some ⟨g,0,none⟩) (i+(n-j)) c)/\wq=w2) .ret a w2;refine Wn hf.res al (v:= .slice (some ⟨g,0,none⟩) (i+(n-j)) c) rfl ?_;exact ⟨rfl,rfl⟩
 grind [tm3]
end
section
variable {P:Program}{c:Ctx}{f:Nat}
theorem NO {t ti el:Nat}{fn:Func}{r:Nat->Nat}{o:Nat->Oper}{I E:TI}{xs:List MV}{i j:Nat}(hf:RF P f t ti el fn r o)(hT:fw P c.ti)(hI:c.tv t=some I)(hL:I.GN=true)(hE:c.tv I.elem=some E)(hel:el=I.elem)(FB:c.lq (c.key f)=I.elem)(hg:c.bK (c.key f)=true)(ZF:i<=j)(hj:j<=xs.length):dJ P c f [.fresh xs,.i .i64 i,.i .i64 j] (.fresh (xs.take i++xs.drop j)):=by
 subst hel;obtain ⟨hIt,SX⟩:=aM hI;obtain ⟨mn,nR⟩:=aM hE;obtain ⟨hu,E2,DI,_,fj⟩:=TI.kK (hT t I hIt) hL;rw [mn] at DI;cases DI;obtain ⟨ie,z,pu,zH,hby,hz0,OJ⟩:=kG (hT _ E mn) nR;obtain ⟨ie2,z2,abZ,hz2,hzr⟩:=CP hE hT;rw [pu] at abZ;cases abZ;rw [hz0] at hz2;cases hz2;have hz1: ∀v∈z.cells.toList,v.oneCell'=true:=(hzr (mT c.key λ_ _=>none)).cells;intro φ W Z vs hz di iu;simp only [cv,hg,if_true] at di;obtain ⟨v0,v1,v2,xs',m1,m2,rfl,OU,auP,F0,A1,A2⟩:=(di.resolve_left (by
  grind)).resolve_right (by
  rintro ⟨pos,_,_,_,_,_,_,_,h1,_⟩;grind)
 simp only [ajh,MV.fresh.injEq,and_true] at OU;obtain ⟨rfl,rfl,rfl⟩:=OU;have num: ∀{v:Value} {n:Nat},cG c.key φ v (.i .i64 (n:Int))->v= .int .i64 (n:Int):=by intro v n h;obtain ⟨_,h⟩:=h;generalize DH:[v]=l at h;cases h;simpa using DH
 have hv1:=num A1;have Xs:=num A2;subst hv1;subst Xs;rw [FB] at F0;obtain ⟨I0,cells,hI0,_,wH,ve,NL⟩:=F0;have hI0:c.ti I.elem=some I0:=hI0;rw [mn] at hI0;cases hI0;have wH:W.ownsRow 0 I.elem E.size v0 xs.length cells:=wH;have ve:aU c.key φ E.size cells xs:=ve;have ZP: ∀b,v0.ownBlock=some b->Z b/\ ∀off,φ b off=none:=by
  intro b hb;refine ⟨(NL b hb).1,λoff=> ?_⟩;cases h:φ b off with
  |none=>rfl
  |some u=>have:=((NL b hb).2.1 off u h).1;cases this
 have BP:cells.length=xs.length *E.size:=ve.length;have bF:(callFunc f [v0,.int .i64 (i:Int),.int .i64 (j:Int)].toArray).run P W= .ok (.enter f #[v0,.int .i64 (i:Int),.int .i64 (j:Int)]) W:=by
  have Ik: ¬fn.name= "runtime.NumGoroutine" :=by simpa using hf.name
  simp [callFunc,hf.pos,Ik,hf.body]
 unfold da;rw [bF];rcases Nat.lt_or_ge i j with dh|hge
 .
  obtain ⟨g,cp,cD,rfl,_,hg0,TE,HF,xu,SY⟩: ∃g cp cD,v0= .slice (some ⟨g,0,none⟩) xs.length cp/\0<=g/\W.heap[g]? =some (.cells cD I.elem (0,0))/\xs.length<=cp/\cp<=maxLen/\cD.size=cp *E.size/\cD.toList.take (xs.length *E.size)=cells:=by rcases wH.2 with ⟨_,h0⟩|h;all_goals grind
  have hl0:cells.length<=cD.size:=by rw [BP,xu];exact (by grind)
  obtain ⟨news,ahX⟩: ∃news,news=cells.drop (j *E.size):=⟨_,rfl⟩
  have Mh:news.length=(xs.length-j) *E.size:=by rw [ahX,ad8,BP,aia]
  have Nd: ∀u∈news,u.oneCell'=true:=λu hu=>ve.zW u (by grind);have hmul: ∀{a b:Nat},a<=b->a *E.size<=b *E.size:=λh=>ad7 _ h;have axn:i *E.size<=j *E.size:=hmul aah;have hjn:j *E.size<=xs.length *E.size:=hmul hj;have axo:xs.length *E.size<=cp *E.size:=hmul TE;have hlo:(i+(xs.length-j)) *E.size=i *E.size+news.length:=by rw [ae9,Mh]
  have Jh:news.length+j *E.size=xs.length *E.size:=by rw [Mh,aia];omega
  obtain ⟨BR,ahY⟩: ∃BR:Array Value,BR=(cD.toList.take (i *E.size)++news++cD.toList.drop (i *E.size+news.length)).toArray:=⟨_,rfl⟩
  have anH:cD.toList.length=cD.size:=ad2;have ahZ:BR.toList.length=BR.size:=ad2;have hA: ∀ty,(aey #[t,t] ty #[.slice (some ⟨g,0,none⟩) i cp,.slice (if cp=j then (some ⟨g,0,none⟩:Option Addr) else some ⟨g,j *E.size,none⟩) (xs.length-j) (cp-j)]).run P {W with drawn:=W.drawn+1}= .ok (.slice (some ⟨g,0,none⟩) (i+(xs.length-j)) cp) (({W with drawn:=W.drawn+1}:World).setRow g BR):=by
   intro ty;have BN:i *ie.size+news.length<=cD.size:=by rw [zH,xu];omega
   by_cases hcj:cp=j
   .rw [if_pos hcj];refine run_append_room (P:=P) (w:={W with drawn:=W.drawn+1}) t ty I.elem ie hu pu g i cp cD hg0 ⟨g,0,none⟩ (xs.length-j) (cp-j) news (by grind) ?_ Nd aah BN|>.trans ?_;all_goals grind
   .rw [if_neg hcj];refine run_append_room (P:=P) (w:={W with drawn:=W.drawn+1}) t ty I.elem ie hu pu g i cp cD hg0 ⟨g,j *E.size,none⟩ (xs.length-j) (cp-j) news (by grind) ?_ Nd aah BN|>.trans ?_
    .intro q u hq;have h1:=wH.cells (g:=g) rfl (j *E.size+q) u (by grind);simp_all [aei,agt]
    grind
  have Im:BR.size=cD.size:=by rw [ahY];simp only [agv,ab3,IN,ad8,anH];omega
  have S2:(({W with drawn:=W.drawn+1}:World).setRow g BR).heap[g]? =some (.cells BR I.elem (0,0)):=iy _ hg0;obtain ⟨zs,hzl,hC0⟩:=Ae (P:=P) (t:=t) (ty:=0) (c:=cp-(i+(xs.length-j))) (w:=({W with drawn:=W.drawn+1}:World).setRow g BR) (off:=(i+(xs.length-j)) *E.size) (n:=xs.length-(i+(xs.length-j))) hu pu hz0 OJ hz1 S2 aah (by grind);obtain ⟨BO,QP⟩: ∃BO:Array Value,BO=(BR.toList.take ((i+(xs.length-j)) *E.size)++zs++BR.toList.drop ((i+(xs.length-j)) *E.size+zs.length)).toArray:=⟨_,rfl⟩
  rw [<-QP] at hC0;have hC: ∀ty,(ahe #[t] ty #[.slice (some ⟨g,(i+(xs.length-j)) *E.size,none⟩) (xs.length-(i+(xs.length-j))) (cp-(i+(xs.length-j)))]).run P (({W with drawn:=W.drawn+1}:World).setRow g BR)= .ok (.tuple #[]) ((({W with drawn:=W.drawn+1}:World).setRow g BR).setRow g BO):=λty=>hC0;refine (abY (w:=W) hf pu zH TE dh hj hA hC).mono ?_;rintro x w' ⟨rfl,rfl⟩;refine ⟨_,rfl,?_⟩;have ase:zs.length=(j-i) *E.size:=by rw [hzl];congr 1;omega
  have hc2:BO.size=cD.size:=by rw [QP];simp only [agv,ab3,IN,ad8,ahZ,Im];rw [ase,aia,hlo];omega
  have ar8:BO.toList.take ((i+(xs.length-j)) *E.size)=cells.take (i *E.size)++cells.drop (j *E.size):=by
   rw [QP];have l1:(BR.toList.take ((i+(xs.length-j)) *E.size)).length=(i+(xs.length-j)) *E.size:=by rw [IN,ahZ,Im,xu,hlo];omega
   rw [show∀l:List Value,l.toArray.toList=l from λ_=>rfl,ae8,aeh (by grind),aed (by grind),hlo,ahY];have l2:(cD.toList.take (i *E.size)).length=i *E.size:=by rw [IN,anH,xu];omega
   rw [show∀l:List Value,l.toArray.toList=l from λ_=>rfl,aeh (by grind),aed (by grind),ahX];congr 1;rw [<-SY,ajW,afK aah]
  have hg2:((({W with drawn:=W.drawn+1}:World).setRow g BR).setRow g BO).heap[g]? =some (.cells BO I.elem (0,0)):=iy _ S2;have hrl:(xs.take i++xs.drop j).length=i+(xs.length-j):=by rw [ab3,IN,ad8];omega
  refine Is (n:=i+(xs.length-j)) (cells:=cells.take (i *E.size)++cells.drop (j *E.size)) hz iu mn nR FB ?_ ?_ ?_ ZP ?_ hrl ((ve.take i).append (ve.drop j)) ?_
  .intro b _ dt;have hbg:b≠g:=λe=>dt (by rw [e];rfl);grind [setRow_other]
  .simp [aeF]
  .have r1:Rest W ({W with drawn:=W.drawn+1}:World):=⟨rfl,rfl,rfl⟩
   exact (r1.trans (Rest.setRow _ g BR)).trans (Rest.setRow _ g BO)
  .refine ⟨?_,(by grind)⟩;grind
  .intro b hb;exact .inl hb
 .
  have hji:j=i:=aah
  subst hji;have ⟨ad,cp,hv,TE⟩: ∃ad cp,v0= .slice ad xs.length cp/\xs.length<=cp:=by rcases wH.2 with ⟨h1,h2⟩|⟨g,cp,cD,h1,_,_,h4,_⟩;all_goals grind
  subst hv;refine (abX (w:=W) (ad:=ad) hf pu TE hj).mono ?_;rintro x w' ⟨rfl,rfl⟩;refine ⟨_,rfl,φ,⟨.refl _,λ_ _ _=>rfl,λ_ _ _=>rfl,ad1 _,.refl _⟩,iu,?_⟩;show bU c (bn.plain Z) (mT c.key φ) w' _ ⟨c.lq (c.key f),false,xs.take j++xs.drop j⟩;rw [FB,ajt];exact ⟨E,cells,mn,nR,wH,ve,NL⟩
end
def rY:List MV->Option MV
 |[.fresh xs,.i .i64 i,.i .i64 j]=>bif decide (0<=i)&&(decide (i<=j)&&decide (j<=(xs.length:Int))) then some (.fresh (xs.take i.toNat++xs.drop j.toNat)) else none
 |_=>none
def El {ms:List MV}{r:MV}(h:rY ms=some r): ∃xs i j,ms=[.fresh xs,.i .i64 ((i:Nat):Int),.i .i64 ((j:Nat):Int)]/\r= .fresh (xs.take i++xs.drop j)/\i<=j/\j<=xs.length:=by unfold rY at h;grind
section
variable {P:Program}{Q:Exit->Act->World->Prop}{ops:Array Oper}{o:Oper}{a:Act}{w w':World}{n:Nat}{σ:Nat->Value}
theorem tm2 (v0 v1:Value)(k:Nat):Tm {tmps:= #[v0,v1]++AI k undef,defers:=[]} (k+2) (lp (lp (λ_=>undef) 0 v0) 1 v1):=by
 refine ⟨rfl,by grind,λq=> ?_⟩;by_cases h0:q=0
 .subst h0;show (#[v0,v1]++AI k undef).getD 0 undef=v0;simp [ad4]
 by_cases h1:q=1
 .subst h1;show (#[v0,v1]++AI k undef).getD 1 undef=v1;simp [ad4]
 have e: ∀{x y:Nat},x≠y->ad9 x y=false:=(by grind [ad9,absurd,AT])
 simp only [lp,e h0,e h1,cond_false];simp [ad4,aiR,show¬q<2 by omega];grind
def Tm.call {i d:Nat}{op:Op}{rest:List Nat}{f:Nat}{args:Array Value}{Rp:Value->World->Prop}(al:Tm a n σ)(hi:ops[i]? =some o)(ho:ai o d op)(hd:d<n)(bF:(execOp (ev σ) o).run P w=(callFunc f args).run P w)(hc:da P f args w Rp)(h: ∀v w' a',Rp v w'->Tm a' n (lp σ d v)->wpOps P ops Q rest a' w'):wpOps P ops Q (i::rest) a w:=by rw [wpOps_cons];unfold wpOp;simp only [hi,BY,ho.guard,if_true];left;refine sW (by grind [al.eval]) hc ?_;intro v w' hr;rw [ho.dst];exact h v w' _ hr (al.put hd v)
def Pl {d:Nat}{t el:TypeId}{x y:Operand}{e:Operand->Value}{g n c j size:Nat}{i:TypeInfo}(ho:ai o d (.indexAddr t x y))(hu:P.underlying t=some (.slice el))(hi:P.info? el=some i)(hs:i.size=size)(hx:e x= .slice (some ⟨g,0,none⟩) n c)(hy:e y= .int .i64 ((j:Nat):Int))(hj:j<n)(w:World):(execOp e o).run P w= .ok (.value (.pointer (some ⟨g,j *size,none⟩))) w:=by
 have h2: ¬n<=j:=aah
 simp [execOp,ho.op,hx,hy,alD,asIntOf,run_underlying hu,h2,afS,typeInfo,hi,hs,aei]
def It {c:Ctx}{d:Nat}{t:TypeId}{I:TI}{x:Operand}{e:Operand->Value}{g off:Nat}{vs:List Value}(ho:ai o d (.load t x))(hr:nQ c.ti P t I)(hc:I.bR=[])(eh:I.st=true)(hl:vs.length=I.size)(hx:e x= .pointer (some ⟨g,off,none⟩))(hm:w.rangeAt g off vs):(execOp e o).run P w= .ok (.value (.agg vs.toArray)) w:=by rcases jr (P:=P) hr hc hl hm with ⟨_,h⟩|⟨h,_⟩;all_goals simp_all [execOp,ho.op]
def Pm {d:Nat}{t:TypeId}{e:Operand->Value}{i:TypeInfo}{z:Value}(ho:ai o d (.alloc t))(hi:P.info? t=some i)(hz:i.zero=some z)(w:World): (execOp e o).run P w= .ok (.value (.pointer (some ⟨w.heap.size,0,none⟩))) (w.alloc (.cells z.cells t)):=by simp [execOp,ho.op,Instr.alloc,zeroValue,typeInfo,hi,hz,newVar,newRow,newObj,alM]
def Iu {c:Ctx}{t:TypeId}{I:TI}{x y:Operand}{e:Operand->Value}{g off:Nat}{v:Value}{arr:Array Value}{T:TypeId}(ho:eO o (.store t x y))(hr:nQ c.ti P t I)(hc:I.bR=[])(hx:e x= .pointer (some ⟨g,off,none⟩))(hy:e y=v)(hs:v.cells.toList.length=I.size)(j0: ∀u∈v.cells.toList,u.oneCell'=true)(bW:w.heap[g]? =some (.cells arr T (0,0)))(BN:off+I.size<=arr.size): (execOp e o).run P w= .ok .skip (w.setRow g (arr.toList.take off++v.cells.toList++arr.toList.drop (off+I.size)).toArray):=by have:=nh (P:=P) (w:=w) hr hc hs j0 bW BN;simp_all [execOp,ho.op]
def Tm.Af {i:Nat}{op:Op}{rest:List Nat}(al:Tm a n σ)(hi:ops[i]? =some o)(ho:eO o op)(bF:(execOp (ev σ) o).run P w= .ok .skip w')(h:wpOps P ops Q rest a w'):wpOps P ops Q (i::rest) a w:=by rw [wpOps_cons];unfold wpOp;simp only [hi,BY,ho.guard,if_true];left;unfold ahP;rw [al.eval,bF];simp only [ahT];rw [ho.dst];exact h
def JZ {d:Nat} {t t':TypeId}{x y:Operand}{e:Operand->Value}{p q:Int}(ho:ai o d (.binOp .lss t x y t'))(hx:e x= .int .i64 p)(hy:e y= .int .i64 q)(w:World): (execOp e o).run P w= .ok (.value (.bool (decide (p<q)))) w:=wF ho hx hy (λw=>by simp [Go.binOp,Op.intCmp]) w
def Wo {d:Nat}{x y:Operand}{t:Array TypeId}{e:Operand->Value}{g:Nat}{lb:Array Value}{v:Value}(ho:ai o d (.call {callee:= .value x,args:= #[y],argTypes:=t})) (hx:e x= .func (.func g) #[] lb) (hy:e y=v) (w:World): (execOp e o).run P w=(callFunc g (#[v]++lb)).run P w:=by grind [execOp,ho.op,resolve,invoke,aeo]
def afr {d:Nat}{x y:Operand}{t:Array TypeId}{e:Operand->Value}{g:Nat}{v u:Value}(ho:ai o d (.call {callee:= .value (.func g),args:= #[x,y],argTypes:=t})) (he:e (.func g)= .func (.func g) #[] #[]) (hx:e x=v) (hy:e y=u) (w:World): (execOp e o).run P w=(callFunc g #[v,u]).run P w:=by grind [execOp,ho.op,resolve,invoke,aeo]
end
def Pn (r:Nat->Nat)(o:Nat->Oper):Code:= .seq (.region (r 0) #[o 0] false) (.seq (.seq (.region (r 1) #[o 1,o 2,o 3] false) (.block 0 (.loop (.seq (.region (r 2) #[o 4] false) (.seq (.cond (.tmp 9) .skip (.exit 0)) (.seq (.block 1 (.seq (.region (r 3) #[o 5,o 6] false) (.seq (.region (r 4) #[o 7,o 8,o 9,o 10,o 11,o 12] false) (.cond (.tmp 16) (.seq (.region (r 5) #[o 13,o 14] false) .ret) .skip)))) (.region (r 6) #[o 15,o 16] false))))))) (.seq (.region (r 7) #[o 17] false) .ret))
structure aj0 (t el ti:Nat) (o:Nat->Oper):Prop where
 h0:ai (o 0) 4 (.assign (.const (.int .i64 0)))
 h1:ai (o 1) 6 (.move (.tmp 0))
 h2:ai (o 2) 7 (.call {callee:= .builtin .len,args:= #[.tmp 6],argTypes:= #[t]})
 h3:ai (o 3) 8 (.move (.const (.int .i64 0)))
 h4:ai (o 4) 9 (.binOp .lss ti (.tmp 8) (.tmp 7) ti)
 h5:ai (o 5) 10 (.move (.tmp 8))
 h6:ai (o 6) 5 (.assign (.tmp 10))
 h7:ai (o 7) 11 (.move (.tmp 1))
 h8:ai (o 8) 12 (.move (.tmp 0))
 h9:ai (o 9) 13 (.move (.tmp 5))
 Fz:ai (o 10) 14 (.indexAddr t (.tmp 12) (.tmp 13))
 Mr:ai (o 11) 15 (.load el (.tmp 14))
 LY:ai (o 12) 16 (.call {callee:= .value (.tmp 11),args:= #[.tmp 15],argTypes:= #[el]})
 JW:ai (o 13) 17 (.move (.tmp 5))
 Pe:ai (o 14) 4 (.assign (.tmp 17))
 LZ:ai (o 15) 18 (.binOp .add ti (.tmp 8) (.const (.int .i64 1)) ti)
 Ir:ai (o 16) 8 (.move (.tmp 18))
 Pf:ai (o 17) 4 (.assign (.const (.int .i64 (-1))))
structure ab0 (P:Program) (f t ti el:Nat) (fn:Func) (r:Nat->Nat) (o:Nat->Oper):Prop where
 pos:P.funcs[f]? =some fn
 name:(fn.name== "runtime.NumGoroutine")=false
 tmps:fn.ntmps=19
 res:fn.results= #[.tmp 4]
 body:fn.body=some (Pn r o)
 ops:aj0 t el ti o
 wG:P.underlying t=some (.slice el)
def Po {P:Program}{fn:Func}{n:Nat}{a:Act}{w:World} {σ:Nat->Value}{R:Ending->World->Prop}{v:Value}(hr:fn.results= #[.tmp 4])(al:Tm a n σ)(h6:σ 4=v)(h:R (.returned v) w):bodyPost P fn R .ret a w:=by
 refine ⟨al.defers,v,?_,h⟩;have h2:a.tmps[4]?.getD undef=v:=by have:=al.get 4;rw [h6] at this;simpa using this
 simp_all [results]
def RG {key:Nat->Nat} {φ:Ph}{size:Nat}{xs:List MV}{cells:List Value}(h:aU key φ size cells xs){k:Nat}(hk:k<xs.length): ((cells.drop (k *size)).take size).length=size/\il key φ ((cells.drop (k *size)).take size) xs[k]:=by have ⟨p1,v1,p2,he,GR,uR,eu⟩:=h.at (aeP hk);grind
def J0 {key:Nat->Nat} {φ:Ph}{vs:List Value}{x:MV}(h:il key φ vs x){ms:List MV}(hx:x= .agg ms):cG key φ (.agg vs.toArray) x:=by
 subst hx;cases h with
 |agg _ _ h=>exact ⟨vs.toArray,rfl,by simpa using h⟩
section
variable {P:Program}{c:Ctx}{f t ti el:Nat}{fn:Func}{r:Nat->Nat}{o:Nat->Oper}{E:TI}{n cp g0 g:Nat}{ad:Option Addr}{ob:Option Nat}{w:World}{lb:Array Value}{S:Type}{Inv:S->(Nat->Prop)->Ph->World->Prop}{step:S->MV->Option (Bool×S)}
theorem ab1 (hf:ab0 P f t ti el fn r o)(hp:xH P c g lb Inv step)(hT:fw P c.ti)(hE:c.tv el=some E)(eh:E.st=true){xs:List MV}{cells:List Value}{cD:Array Value}{T:TypeId} {φ0:Ph}{Z0:Nat->Prop} {s0 s':S}{ys:List MV}(JQ: ∀x∈xs,∃ms,x= .agg ms)(had:0<xs.length->ad=some ⟨g0,0,none⟩/\ob=some g0/\w.heap[g0]? =some (.cells cD T (0,0))/\cD.toList.take (xs.length *E.size)=cells)(hg0: ∀b,ob=some b-> ¬Z0 b/\b<w.heap.size/\ ∀off,φ0 b off=none)(jk:aU c.key φ0 E.size cells xs)(anI:xs.length<2^63)(hinv:Inv s0 Z0 φ0 w)(ja: ∀b,w.heap.size<=b->Z0 b)(iu:ni φ0 w)(hd:pG step s0 xs=some (ys,s')): Calls P f #[.slice ad xs.length cp,.func (.func g) #[] lb] w λe W=> ∃Z φ,(∀b,ob=some b->W.heap[b]? =w.heap[b]?)/\ ((e= .returned (.int .i64 (-1))/\ys=xs/\BQ c ob Inv Z0 φ0 w s' Z φ W)\/ ∃k,∃hk:k<xs.length,∃sk,e= .returned (.int .i64 (k:Int))/\pG step s0 (xs.take (k+1))=some (xs.take k,sk)/\BQ c ob Inv Z0 φ0 w sk Z φ W):=by
 have ⟨mn,nR⟩:=aM hE;have ⟨ie,z,pu,zH,hby,hz0,OJ⟩:=kG (hT _ E mn) nR;refine calls_of_wp hf.pos hf.body ?_;rw [hf.tmps];generalize ah0:(λ(e:Ending) (W:World)=> ∃Z φ,(∀b,ob=some b->W.heap[b]? =w.heap[b]?)/\ ((e= .returned (.int .i64 (-1))/\ys=xs/\BQ c ob Inv Z0 φ0 w s' Z φ W)\/ ∃k,∃hk:k<xs.length,∃sk,e= .returned (.int .i64 (k:Int))/\pG step s0 (xs.take (k+1))=some (xs.take k,sk)/\BQ c ob Inv Z0 φ0 w sk Z φ W))=aj1;have key: ∀a:Act,Tm a 19 (lp (lp (λ_=>undef) 0 (.slice ad xs.length cp)) 1 (.func (.func g) #[] lb))->(Pn r o).wp P (bodyPost P fn aj1) a w:=by
  intro a al;unfold Pn;refine wp_seq (wp_region ?_);refine al.vd hf.ops.h0 λa al=> ?_;refine wp_seq (wp_seq (wp_region ?_));refine al.mv hf.ops.h1 λa al=> ?_;refine al.st hf.ops.h2 (mq hf.ops.h2 hf.wG rfl) λa al=> ?_;refine al.mv hf.ops.h3 λa al=> ?_;refine wp_block (wp_loop (λa W=> ∃σ,Tm a 19 σ/\σ 0= .slice ad xs.length cp/\σ 1= .func (.func g) #[] lb/\σ 7= .int .i64 ((xs.length:Nat):Int)/\ ∃k:Nat,k<=xs.length/\σ 8= .int .i64 (k:Int)/\ (∀b,ob=some b->W.heap[b]? =w.heap[b]?)/\ ∃s Z φ,pG step s0 (xs.take k)=some (xs.take k,s)/\BQ c ob Inv Z0 φ0 w s Z φ W) (λa W=>match a.tmps.getD 8 undef with| .int _ k=>xs.length-k.toNat|_=>0) ?_ ?_)
  .refine ⟨_,al,rfl,rfl,rfl,0,aef _,rfl,λ_ _=>rfl,s0,Z0,φ0,rfl,⟨hinv,ja,λb hb=> .inl hb,iu,.refl _ _ _,(by grind)⟩⟩
  .rintro a W ⟨σ,al,h0,h1,h7,k,hk,h8,HH,s,Z,φ,hdk,hW⟩;refine wp_seq (wp_region ?_);have hm8:(match a.tmps.getD 8 undef with| .int _ k=>xs.length-k.toNat|_=>0)=xs.length-k:=by rw [al.get 8,h8];simp
   refine al.st hf.ops.h4 (JZ hf.ops.h4 h8 h7) λa al=> ?_;refine wp_seq ?_;by_cases dh:k<xs.length;rotate_left
   .refine al.cond (b:=false) (by show aec (decide ((k:Int)<(xs.length:Int)))=_;grind) ?_;refine wp_exit ?_;refine wp_seq (wp_region ?_);refine al.vd hf.ops.Pf λa al=> ?_;refine wp_ret ?_;refine Po hf.res al (v:= .int .i64 (-1)) rfl ?_;grind
   .refine al.cond (b:=true) (by show aec (decide ((k:Int)<(xs.length:Int)))=_;grind) ?_;refine wp_skip ?_;have ⟨aj2,hob,bW,bE⟩:=had aah;have h0':=h0;rw [aj2] at h0';have ⟨yk,sk,b,sk',e1,e2,e3⟩:=V5 hd dh;rw [hdk] at e1;simp at e1;have ⟨rfl,rfl⟩:=e1;have ab2:=jk.mono hW.tr.ph;have ⟨hl,eu⟩:=RG ab2 dh;have aj3:W.rangeAt g0 (k *E.size) ((cells.drop (k *E.size)).take E.size):=by
     intro j v hj;have Mf:j<E.size:=by have:=(afn.1 hj).1;omega
     have hW0:W.heap[g0]? =some (.cells cD T (0,0)):=(HH g0 hob).trans bW;rw [cell_of hW0,<-ahp];rw [afo Mf,aev,<-bE,ae1] at hj;split at hj
     .exact hj
     .cases hj
    have ⟨ms,OU⟩:=JQ _ (ai3 dh);have T6:cG c.key φ (.agg ((cells.drop (k *E.size)).take E.size).toArray) xs[k]:=J0 eu OU;refine wp_seq (wp_block ?_);refine wp_seq (wp_region ?_);refine al.mv (hv:=h8) hf.ops.h5 λa al=> ?_;refine al.vd hf.ops.h6 λa al=> ?_;refine wp_seq (wp_region ?_);refine al.mv (hv:=h1) hf.ops.h7 λa al=> ?_;refine al.mv (hv:=h0') hf.ops.h8 λa al=> ?_;refine al.mv hf.ops.h9 λa al=> ?_;refine al.step rfl hf.ops.Fz aaD (Pl hf.ops.Fz hf.wG pu zH rfl rfl dh _) (λa al=> ?_);refine al.step rfl hf.ops.Mr aaD (It hf.ops.Mr (hT _ E mn) nR eh hl rfl aj3) (λa al=> ?_);refine al.call rfl hf.ops.LY aaD (Wo hf.ops.LY rfl rfl _) (hp.call hW.inv hW.new hW.jU T6 e2) ?_;rintro v W2 a ⟨rfl,φ',t1,t2,t3⟩ al;have hnz: ∀b,ob=some b-> ¬Z b:=λb hb hz=>by rcases hW.sub _ hz with h|h;all_goals grind
    have ahy: ∀b,ob=some b->W2.heap[b]? =w.heap[b]? :=λb hb=>(t1.heap b (hnz b hb) (by grind)).trans (HH b hb);have RD:BQ c ob Inv Z0 φ0 w sk' Z φ' W2:=⟨t3,λb hb=>hW.new b (aez t1.size hb),hW.sub,t2,hW.tr.trans (t1.sup λb hb=> .inl (hW.sub b hb)),λb off hb=>by rw [t1.free b off (hnz b hb)];exact hW.free b off hb⟩
    cases b with
    |true=>refine al.cond (b:=true) rfl ?_;refine wp_seq (wp_region ?_);refine al.mv hf.ops.JW λa al=> ?_;refine al.vd hf.ops.Pe λa al=> ?_;refine wp_ret ?_;refine Po hf.res al (v:= .int .i64 (k:Int)) rfl ?_;grind
    |false=>
     refine al.cond (b:=false) rfl ?_;refine wp_skip ?_;refine wp_region ?_;refine al.st hf.ops.LZ (ju (q:=1) hf.ops.LZ h8 rfl aah) λa al=> ?_;refine al.mv hf.ops.Ir λa al=> ?_;refine ⟨⟨_,al,h0,h1,h7,k+1,aah,rfl,ahy,sk',Z,φ',?_,RD⟩,?_⟩
     .grind [aln,aeP]
     .have:a.tmps.getD 8 undef= .int .i64 ((k+1:Nat):Int):=by rw [al.get 8];rfl
      grind
 grind [tm2]
end
def lH {P:Program}{f:Nat}{fn:Func}{b:Code}{args:Array Value}{w:World}{R:Value->World->Prop}(fj:P.funcs[f]? =some fn)(z8:(fn.name== "runtime.NumGoroutine")=false)(mG:fn.body=some b)
 (h:Calls P f args w λe W=> ∃v,e= .returned v/\R v W):da P f args w R:=by
 have bF:(callFunc f args).run P w= .ok (.enter f args) w:=by
  have Ik: ¬fn.name= "runtime.NumGoroutine" :=by simpa using z8
  simp [callFunc,fj,Ik,mG]
 grind [da]
def J1 (r:Nat->Nat)(o:Nat->Oper):Code:= .seq (.region (r 0) #[o 0] false) (.seq (.region (r 1) #[o 1,o 2,o 3,o 4] false) (.seq (.seq (.region (r 2) #[o 5,o 6] false) (.cond (.tmp 12) (.seq (.region (r 3) #[o 7,o 8] false) .ret) .skip)) (.seq (.seq (.region (r 4) #[o 9,o 10,o 11] false) (.block 0 (.loop (.seq (.seq (.region (r 5) #[o 12,o 13,o 14,o 15] false) (.cond (.tmp 19) .skip (.exit 0))) (.seq (.block 1 (.seq (.region (r 6) #[o 16,o 17,o 18,o 19,o 20,o 21] false) (.seq (.region (r 7) #[o 22,o 23,o 24,o 25] false) (.cond (.tmp 29) (.seq (.region (r 8) #[o 26,o 27,o 28,o 29,o 30] false) (.region (r 9) #[o 31,o 32,o 33] false)) .skip)))) (.region (r 10) #[o 34,o 35,o 36] false)))))) (.seq (.region (r 11) #[o 37,o 38,o 39,o 40] false) (.seq (.region (r 12) #[o 41,o 42,o 43,o 44] false) .ret)))))
structure afs (t el ti tb fu fi:Nat) (o:Nat->Oper):Prop where
 h0:ai (o 0) 4 (.assign (.const (.slice none 0 0)))
 h1:ai (o 1) 8 (.move (.tmp 0))
 h2:ai (o 2) 9 (.move (.tmp 1))
 h3:ai (o 3) 10 (.call {callee:= .value (.func fi),args:= #[.tmp 8,.tmp 9],argTypes:= #[t,fu]})
 h4:ai (o 4) 5 (.assign (.tmp 10))
 h5:ai (o 5) 11 (.move (.tmp 5))
 h6:ai (o 6) 12 (.binOp .eql ti (.tmp 11) (.const (.int .i64 (-1))) ti)
 h7:ai (o 7) 13 (.move (.tmp 0))
 h8:ai (o 8) 4 (.assign (.tmp 13))
 h9:ai (o 9) 14 (.move (.tmp 5))
 Fz:ai (o 10) 15 (.binOp .add ti (.tmp 14) (.const (.int .i64 1)) ti)
 Mr:ai (o 11) 6 (.assign (.tmp 15))
 LY:ai (o 12) 16 (.move (.tmp 6))
 JW:ai (o 13) 17 (.move (.tmp 0))
 Pe:ai (o 14) 18 (.call {callee:= .builtin .len,args:= #[.tmp 17],argTypes:= #[t]})
 LZ:ai (o 15) 19 (.binOp .lss ti (.tmp 16) (.tmp 18) ti)
 Ir:ai (o 16) 22 (.move (.tmp 0))
 Pf:ai (o 17) 23 (.move (.tmp 6))
 Qm:ai (o 18) 24 (.indexAddr t (.tmp 22) (.tmp 23))
 Rz:ai (o 19) 25 (.load el (.tmp 24))
 S3:ai (o 20) 7 (.alloc el)
 Qn:eO (o 21) (.store el (.tmp 7) (.tmp 25))
 S4:ai (o 22) 26 (.move (.tmp 1))
 Pg:ai (o 23) 27 (.load el (.tmp 7))
 RB:ai (o 24) 28 (.call {callee:= .value (.tmp 26),args:= #[.tmp 27],argTypes:= #[el]})
 NK:ai (o 25) 29 (.unOp .not tb (.tmp 28))
 Ua:ai (o 26) 30 (.move (.tmp 0))
 X9:ai (o 27) 31 (.move (.tmp 5))
 Wg:ai (o 28) 32 (.load el (.tmp 7))
 Wh:ai (o 29) 33 (.indexAddr t (.tmp 30) (.tmp 31))
 ZT:eO (o 30) (.store el (.tmp 33) (.tmp 32))
 Wi:ai (o 31) 34 (.move (.tmp 5))
 S5:ai (o 32) 35 (.binOp .add ti (.tmp 34) (.const (.int .i64 1)) ti)
 Ya:ai (o 33) 5 (.assign (.tmp 35))
 Yb:ai (o 34) 20 (.move (.tmp 6))
 Wj:ai (o 35) 21 (.binOp .add ti (.tmp 20) (.const (.int .i64 1)) ti)
 Yc:ai (o 36) 6 (.assign (.tmp 21))
 Ub:ai (o 37) 36 (.move (.tmp 0))
 Wk:ai (o 38) 37 (.move (.tmp 5))
 Yd:ai (o 39) 38 (.slice t (.tmp 36) (some (.tmp 37)) none none)
 ZU:eO (o 40) (.call {callee:= .builtin .clear,args:= #[.tmp 38],argTypes:= #[t]})
 Uc:ai (o 41) 39 (.move (.tmp 0))
 h42:ai (o 42) 40 (.move (.tmp 5))
 Ye:ai (o 43) 41 (.slice t (.tmp 39) none (some (.tmp 40)) none)
 ZV:ai (o 44) 4 (.assign (.tmp 41))
structure ab4 (P:Program) (f t ti tb fu fi el:Nat) (fn:Func) (r:Nat->Nat) (o:Nat->Oper):Prop where
 pos:P.funcs[f]? =some fn
 name:(fn.name== "runtime.NumGoroutine")=false
 tmps:fn.ntmps=42
 res:fn.results= #[.tmp 4]
 body:fn.body=some (J1 r o)
 ops:afs t el ti tb fu fi o
 wG:P.underlying t=some (.slice el)
section
variable {P:Program}{c:Ctx}{f fi t ti tb fu el:Nat}{fn fni:Func}{r ri:Nat->Nat}{o oi:Nat->Oper}{E:TI}{cp g0 g:Nat}{ad:Option Addr}{ob:Option Nat}{w W W2:World}{lb:Array Value}{S:Type}{Inv:S->(Nat->Prop)->Ph->World->Prop}{step:S->MV->Option (Bool×S)}{Z0 Z:Nat->Prop}{φ0 φ:Ph}{s:S}
def BQ.move (hp:xH P c g lb Inv step)(hW:BQ c ob Inv Z0 φ0 w s Z φ W)(uw:W.heap.size<=W2.heap.size)(kW: ∀b,b<W.heap.size->ob≠some b->W2.heap[b]? =W.heap[b]?)(vc:Rest W W2)(hnz: ∀b,ob=some b-> ¬Z b): BQ c ob Inv Z0 φ0 w s (λb=>(Z b/\b<W.heap.size)\/W2.heap.size<=b) φ W2:=by
 have hws:=hW.tr.size;refine ⟨hp.mono (hp.frame hW.inv uw (by grind)) λb hb=> .inl hb,λb hb=> .inr hb,λb hb=> ?_,λb off v hv=> ?_,?_,hW.free⟩
 .rcases hb with hb|hb
  .exact hW.sub b hb.1
  grind
 .have h1:=hW.jU b off v hv;have dh:=No W _ h1;have dt:ob≠some b:=by intro e;rw [hW.free b off e] at hv;cases hv
  grind [aeg]
 .refine hW.tr.trans ⟨.refl _,λb hb dh=> ?_,λ_ _ _=>rfl,uw,vc⟩;grind
structure anJ (c:Ctx) (sz n cp:Nat) (cells:List Value) (cD:Array Value) (φ:Ph) (i j:Nat) (ys:List MV):Prop where
 size:cD.size=cp *sz
 done:aU c.key φ sz (cD.toList.take (i *sz)) ys
 len:ys.length=i
 rest:(cD.toList.take (n *sz)).drop (j *sz)=cells.drop (j *sz)
def aft (c:Ctx)(ob:Option Nat){S:Type}(Inv:S->(Nat->Prop)->Ph->World->Prop)(step:S->MV->Option (Bool×S))(Z0:Nat->Prop) (φ0:Ph)(w:World)(xs ys:List MV) (s0 s':S)(v:Value)(W:World):Prop:=∃Z φ,(∀b,ob=some b->W.heap[b]? =w.heap[b]?)/\((v= .int .i64 (-1)/\ys=xs/\BQ c ob Inv Z0 φ0 w s' Z φ W)\/ ∃k,∃hk:k<xs.length,∃sk,v= .int .i64 (k:Int)/\pG step s0 (xs.take (k+1))=some (xs.take k,sk)/\BQ c ob Inv Z0 φ0 w sk Z φ W)
theorem RH (hf:ab4 P f t ti tb fu fi el fn r o)(hfi:ab0 P fi t ti el fni ri oi)(hp:xH P c g lb Inv step)(hT:fw P c.ti)(hE:c.tv el=some E)(eh:E.st=true)(fj:0<E.size){xs:List MV}{cells:List Value}{cD:Array Value} {s0 s':S}{ys:List MV}(JQ: ∀x∈xs,∃ms,x= .agg ms)(had:0<xs.length->ad=some ⟨g0,0,none⟩/\ob=some g0/\w.heap[g0]? =some (.cells cD el (0,0))/\cD.toList.take (xs.length *E.size)=cells/\xs.length<=cp/\cD.size=cp *E.size)(hg0: ∀b,ob=some b-> ¬Z0 b/\b<w.heap.size/\ ∀off,φ0 b off=none)(jk:aU c.key φ0 E.size cells xs)(anI:xs.length<2^63)(hinv:Inv s0 Z0 φ0 w)(ja: ∀b,w.heap.size<=b->Z0 b)(iu:ni φ0 w)(hd:pG step s0 xs=some (ys,s')): Calls P f #[.slice ad xs.length cp,.func (.func g) #[] lb] w λe W=> ∃v,e= .returned v/\ ∃Z φ,BQ c ob Inv Z0 φ0 w s' Z φ W/\ ((v= .slice ad xs.length cp/\ys=xs/\ ∀b,ob=some b->W.heap[b]? =w.heap[b]?)\/ (0<xs.length/\v= .slice (some ⟨g0,0,none⟩) ys.length cp/\ ∃qG,W.heap[g0]? =some (.cells qG el (0,0))/\qG.size=cp *E.size/\aU c.key φ E.size (qG.toList.take (ys.length *E.size)) ys)):=by
 obtain ⟨mn,nR⟩:=aM hE;obtain ⟨ie,z,pu,zH,hby,hz0,OJ⟩:=kG (hT _ E mn) nR;obtain ⟨ie2,z2,abZ,hz2,hzr⟩:=CP hE hT;rw [pu] at abZ;cases abZ;rw [hz0] at hz2;cases hz2;have hz1: ∀v∈z.cells.toList,v.oneCell'=true:=(hzr (mT c.key λ_ _=>none)).cells;have anK:da P fi #[.slice ad xs.length cp,.func (.func g) #[] lb] w (aft c ob Inv step Z0 φ0 w xs ys s0 s'):=by
  refine lH hfi.pos hfi.name hfi.body ((ab1 hfi hp hT hE eh JQ (λh=>⟨(had h).1,(had h).2.1,(had h).2.2.1,(had h).2.2.2.1⟩) hg0 jk anI hinv ja iu hd).mono ?_);rintro e W ⟨Z,φ,h1,h2⟩;rcases h2 with ⟨rfl,h3,h4⟩|⟨k,hk,sk,rfl,h3,h4⟩
  .exact ⟨_,rfl,Z,φ,h1,.inl ⟨rfl,h3,h4⟩⟩
  .exact ⟨_,rfl,Z,φ,h1,(by grind)⟩
 refine calls_of_wp hf.pos hf.body ?_;rw [hf.tmps];generalize ah0:(λ(e:Ending) (W:World)=> ∃v,e= .returned v/\ ∃Z φ,BQ c ob Inv Z0 φ0 w s' Z φ W/\ ((v= .slice ad xs.length cp/\ys=xs/\ ∀b,ob=some b->W.heap[b]? =w.heap[b]?)\/ (0<xs.length/\v= .slice (some ⟨g0,0,none⟩) ys.length cp/\ ∃qG,W.heap[g0]? =some (.cells qG el (0,0))/\qG.size=cp *E.size/\aU c.key φ E.size (qG.toList.take (ys.length *E.size)) ys)))=aj1;have key: ∀a:Act,Tm a 42 (lp (lp (λ_=>undef) 0 (.slice ad xs.length cp)) 1 (.func (.func g) #[] lb))->(J1 r o).wp P (bodyPost P fn aj1) a w:=by
  intro a al;unfold J1;refine wp_seq (wp_region ?_);refine al.vd hf.ops.h0 λa al=> ?_;refine wp_seq (wp_region ?_);refine al.mv hf.ops.h1 λa al=> ?_;refine al.mv hf.ops.h2 λa al=> ?_;refine al.call rfl hf.ops.h3 aaD (afr hf.ops.h3 rfl rfl rfl _) anK ?_;clear anK;rintro v W1 a1 ⟨Z,φ,HH,pk⟩ anL;clear al;refine anL.vd hf.ops.h4 λa2 abV=> ?_;clear anL;refine wp_seq (wp_seq (wp_region ?_));refine abV.mv hf.ops.h5 λa3 aj4=> ?_;clear abV;rcases pk with ⟨rfl,rfl,hW⟩|⟨k,hk,sk,rfl,hdk,hW⟩
  .refine aj4.st hf.ops.h6 (nk hf.ops.h6 rfl rfl) λa al=> ?_;refine al.cond (b:=true) (by rfl) ?_;refine wp_seq (wp_region ?_);refine al.mv hf.ops.h7 λa al=> ?_;refine al.vd hf.ops.h8 λa al=> ?_;refine wp_ret ?_;refine Po hf.res al (v:= .slice ad ys.length cp) rfl ?_;grind
  .refine aj4.st hf.ops.h6 (nk hf.ops.h6 rfl rfl) λa al=> ?_;refine al.cond (b:=false) (by show aec (decide ((k:Int)= -1))=_;simp_all) ?_;simp only [AS,if_false];refine wp_skip ?_;refine wp_seq (wp_seq (wp_region ?_));refine al.mv hf.ops.h9 λa al=> ?_;refine al.st hf.ops.Fz (ju (q:=1) hf.ops.Fz rfl rfl aah) λa al=> ?_;refine al.vd hf.ops.Mr λa4 anM=> ?_;clear aj4 al;obtain ⟨aj2,hob,bW,bE,asi,asj⟩:=had aah;have S2:=hg0 g0 hob;have asl: ∀b,ob=some b->b=g0:=(by grind)
   have hmul: ∀{a b:Nat},a<=b->a *E.size<=b *E.size:=λh=>ad7 _ h;refine wp_block (wp_loop (λa W=> ∃σ,Tm a 42 σ/\σ 0= .slice (some ⟨g0,0,none⟩) xs.length cp/\σ 1= .func (.func g) #[] lb/\ ∃i j:Nat,i<j/\j<=xs.length/\σ 5= .int .i64 (i:Int)/\σ 6= .int .i64 (j:Int)/\ ∃qG sj Z φ yj,W.heap[g0]? =some (.cells qG el (0,0))/\pG step s0 (xs.take j)=some (yj,sj)/\BQ c ob Inv Z0 φ0 w sj Z φ W/\anJ c E.size xs.length cp cells qG φ i j yj) (λa W=>match a.tmps.getD 6 undef with| .int _ k=>xs.length-k.toNat|_=>0) ?_ ?_)
   .refine ⟨_,anM,by show alJ ad xs.length cp=_;rw [aj2],rfl,k,k+1,aah,aah,rfl,rfl,cD,sk,Z,φ,xs.take k,(HH g0 hob).trans bW,hdk,hW,⟨asj,?_,by grind,by rw [bE]⟩⟩;have h1:=(jk.mono hW.tr.ph).take k;grind
   .clear HH hdk hW anM bW;rintro a W ⟨σ,al,h0,h1,i,j,ZF,hjn,h5,h6,qG,sj,Z',φ',yj,HH,hdj,hW,hR⟩;have hm6:(match a.tmps.getD 6 undef with| .int _ k=>xs.length-k.toNat|_=>0)=xs.length-j:=by rw [al.get 6,h6];simp
    rw [hm6];clear hm6;have hnz: ∀b,ob=some b-> ¬Z' b:=λb hb hz=>by rcases hW.sub _ hz with h|h;all_goals grind
    refine wp_seq (wp_seq (wp_region ?_));refine al.mv (hv:=h6) hf.ops.LY λa al=> ?_;refine al.mv (hv:=h0) hf.ops.JW λa al=> ?_;refine al.st hf.ops.Pe (mq hf.ops.Pe hf.wG rfl) λa al=> ?_;refine al.st hf.ops.LZ (JZ hf.ops.LZ rfl rfl) λa al=> ?_;by_cases dh:j<xs.length;rotate_left
    .
     refine al.cond (b:=false) (by show aec (decide ((j:Int)<(xs.length:Int)))=_;grind) ?_;refine wp_exit ?_;have asm:j=xs.length:=aah
     subst asm;rw [alr,hd] at hdj;simp at hdj;have ⟨rfl,rfl⟩:=hdj;have hlen:=hR.len;have uw:=hR.size;have BN:i *E.size+(xs.length-i) *E.size<=qG.size:=by rw [<-ae9,uw];exact hmul aah
     have ⟨zs,hzl,anN⟩:=Ae (P:=P) (w:=W) (t:=t) (ty:=(o 40).type) (g:=g0) (off:=i *E.size) (n:=xs.length-i) (c:=cp-i) hf.wG pu hz0 OJ hz1 HH aah BN;have ⟨W3,ZW⟩: ∃W3,W3=W.setRow g0 (qG.toList.take (i *E.size)++zs++qG.toList.drop (i *E.size+zs.length)).toArray:=⟨_,rfl⟩
     rw [<-ZW] at anN;have Em:=hW.move hp (W2:=W3) (by grind [aeF]) (by grind [setRow_other]) (by rw [ZW];exact .setRow _ _ _) hnz;refine wp_seq (wp_region ?_);refine al.mv (hv:=h0) hf.ops.Ub λa al=> ?_;refine al.mv (hv:=h5) hf.ops.Wk λa al=> ?_;refine al.step rfl hf.ops.Yd aaD (nT hf.ops.Yd hf.wG pu zH rfl rfl aah aah _) (λa al=> ?_);refine al.ahW (v:= .tuple #[]) rfl hf.ops.ZU (Wm hf.ops.ZU rfl anN) ?_;refine wp_seq (wp_region ?_);refine al.mv (hv:=h0) hf.ops.Uc λa al=> ?_;refine al.mv (hv:=h5) hf.ops.h42 λa al=> ?_;refine al.st hf.ops.Ye (Ei hf.ops.Ye hf.wG pu zH rfl rfl aah) λa al=> ?_;refine al.vd hf.ops.ZV λa al=> ?_;refine wp_ret ?_;refine Po hf.res al (v:= .slice (some ⟨g0,0,none⟩) i cp) rfl ?_;rw [<-ah0];refine ⟨_,rfl,_,φ',Em,.inr ⟨aah,by rw [hlen],_,by rw [ZW];exact iy _ HH,?_,?_⟩⟩
     .grind
     grind [ae8,IN,Nat.min_self,hR.done]
    .refine al.cond (b:=true) (by show aec (decide ((j:Int)<(xs.length:Int)))=_;grind) ?_;simp only [if_true];refine wp_skip ?_;obtain ⟨yk,sk',b,sk2,e1,e2,e3⟩:=V5 hd dh;rw [hdj] at e1;simp only [ad0,ahw] at e1;obtain ⟨rfl,rfl⟩:=e1;have ab2:=jk.mono hW.tr.ph;obtain ⟨hl,eu⟩:=RG ab2 dh;obtain ⟨Qp,Tx⟩: ∃Qp,Qp=(cells.drop (j *E.size)).take E.size:=⟨_,rfl⟩
     rw [<-Tx] at hl eu;have BP:qG.toList.length=cp *E.size:=by rw [ad2,hR.size]
     have hj1:j *E.size+E.size<=xs.length *E.size:=by rw [<-afj];exact hmul dh
     have TE:xs.length *E.size<=cp *E.size:=hmul asi;have wh:i *E.size+E.size<=j *E.size:=by rw [<-afj];exact hmul ZF
     have aj3:W.rangeAt g0 (j *E.size) Qp:=by
      intro q v hq;have hql:q<E.size:=by have:=(afn.1 hq).1;omega
      rw [cell_of HH,<-ahp];rw [Tx,afo hql,<-hR.rest,aev,afo aah] at hq;exact hq
     have j0: ∀u∈Qp,u.oneCell'=true:=λu hu=>jk.zW u (by grind);obtain ⟨ms,OU⟩:=JQ _ (ai3 dh);have T6:cG c.key φ' (.agg Qp.toArray) xs[j]:=J0 eu OU;have hsc:(Value.agg Qp.toArray).cells.toList=Qp:=by simp [ajA]
     refine wp_seq (wp_block ?_);refine wp_seq (wp_region ?_);refine al.mv (hv:=h0) hf.ops.Ir λa al=> ?_;refine al.mv (hv:=h6) hf.ops.Pf λa al=> ?_;refine al.step rfl hf.ops.Qm aaD (Pl hf.ops.Qm hf.wG pu zH rfl rfl dh _) (λa al=> ?_);refine al.step rfl hf.ops.Rz aaD (It hf.ops.Rz (hT _ E mn) nR eh hl rfl aj3) (λa al=> ?_);refine al.step rfl hf.ops.S3 aaD (Pm hf.ops.S3 pu hz0 _) (λa al=> ?_);have ah1:(W.alloc (.cells z.cells el)).heap[W.heap.size]? =some (.cells z.cells el (0,0)):=fL W _;refine al.Af rfl hf.ops.Qn (Iu (v:= .agg Qp.toArray) (off:=0) hf.ops.Qn (hT _ E mn) nR rfl rfl (by rw [hsc,hl]) (by grind) ah1 (by grind)) ?_;rw [hsc];obtain ⟨W2,RD⟩: ∃W2,W2=(W.alloc (.cells z.cells el)).setRow W.heap.size (z.cells.toList.take 0++Qp++z.cells.toList.drop (0+E.size)).toArray:=⟨_,rfl⟩
     rw [<-RD];have Il:W2.heap.size=W.heap.size+1:=by rw [RD,setRow_size];simp
     have hold: ∀b,b<W.heap.size->W2.heap[b]? =W.heap[b]? :=λb hb=>by rw [RD,setRow_other _ _ _ _ aah];exact (cq.alloc W z.cells el).qo b hb
     have ah2:W2.heap[W.heap.size]? =some (.cells Qp.toArray el (0,0)):=by
      rw [RD,iy _ ah1];congr 3;have:z.cells.toList.drop (0+E.size)=[]:=by rw [agt,ajd];rw [ad2,OJ];exact ad1 _
      rw [this];simp
     have Ue:Rest W W2:=by rw [RD];exact (Rest.alloc W z.cells el).trans (.setRow _ _ _)
     have hgl:g0<W.heap.size:=(by grind)
     have Em:=hW.move hp (W2:=W2) aah (λb hb _=>hold b hb) Ue hnz;have aj5: ∀b,ob=some b-> ¬((Z' b/\b<W.heap.size)\/W2.heap.size<=b):=by
      intro b hb;have:=asl b hb;subst this;rintro (h|h)
      .grind
      .omega
     have ah3: ∀{W:World} {b:Nat},W.heap[b]? =some (.cells Qp.toArray el (0,0))->W.rangeAt b 0 Qp:=by intro W b hb q v hq;rw [cell_of hb,agt];simpa using hq
     refine wp_seq (wp_region ?_);refine al.mv (hv:=h1) hf.ops.S4 λa al=> ?_;refine al.step rfl hf.ops.Pg aaD (It hf.ops.Pg (hT _ E mn) nR eh hl rfl (ah3 ah2)) (λa al=> ?_);refine al.call rfl hf.ops.RB aaD (Wo hf.ops.RB rfl rfl _) (hp.call Em.inv Em.new Em.jU T6 e2) ?_;rintro v W3 a ⟨rfl,φ3,t1,t2,t3⟩ al;have ab5:W3.heap[g0]? =some (.cells qG el (0,0)):=(t1.heap g0 (aj5 g0 hob) aah).trans (by grind);have anO:W3.heap[W.heap.size]? =some (.cells Qp.toArray el (0,0)):=(t1.heap _ (by grind) aah).trans ah2;have ZW:BQ c ob Inv Z0 φ0 w sk2 (λb=>(Z' b/\b<W.heap.size)\/W2.heap.size<=b) φ3 W3:=⟨t3,(by grind),Em.sub,t2,Em.tr.trans (t1.sup λb hb=> .inl (Em.sub b hb)),λb off hb=>by rw [t1.free b off (aj5 b hb)];exact Em.free b off hb⟩
     refine al.st hf.ops.NK (Pd hf.ops.NK rfl) λa al=> ?_;cases b with
     |true=>
      refine al.cond (b:=false) rfl ?_;refine wp_skip ?_;refine wp_region ?_;refine al.mv (hv:=h6) hf.ops.Yb λa al=> ?_;refine al.st hf.ops.Wj (ju (q:=1) hf.ops.Wj rfl rfl aah) λa al=> ?_;refine al.vd hf.ops.Yc λa al=> ?_;refine ⟨⟨_,al,h0,h1,i,j+1,aah,aah,h5,rfl,qG,sk2,_,φ3,yj,ab5,by rw [e3];rfl,ZW,⟨hR.size,hR.done.mono t1.ph,hR.len,?_⟩⟩,?_⟩
      .rw [show (j+1) *E.size=j *E.size+E.size from afj _ _,<-ahU,<-ahU,hR.rest]
      .have:a.tmps.getD 6 undef= .int .i64 ((j+1:Nat):Int):=by rw [al.get 6];rfl
       rw [this];simp;omega
     |false=>
      refine al.cond (b:=true) rfl ?_;simp only [if_true];refine wp_seq (wp_region ?_);refine al.mv (hv:=h0) hf.ops.Ua λa al=> ?_;refine al.mv (hv:=h5) hf.ops.X9 λa al=> ?_;refine al.step rfl hf.ops.Wg aaD (It hf.ops.Wg (hT _ E mn) nR eh hl rfl (ah3 anO)) (λa al=> ?_);refine al.step rfl hf.ops.Wh aaD (Pl hf.ops.Wh hf.wG pu zH rfl rfl aah _) (λa al=> ?_);refine al.Af rfl hf.ops.ZT (Iu (v:= .agg Qp.toArray) (off:=i *E.size) hf.ops.ZT (hT _ E mn) nR rfl rfl (by rw [hsc,hl]) (by grind) ab5 (by grind)) ?_;rw [hsc];have ⟨W4,hW4⟩: ∃W4,W4=W3.setRow g0 (qG.toList.take (i *E.size)++Qp++qG.toList.drop (i *E.size+E.size)).toArray:=⟨_,rfl⟩
      rw [<-hW4];have aj6:=ZW.move hp (W2:=W4) (by rw [hW4,setRow_size];grind) (by grind [setRow_other]) (by rw [hW4];exact .setRow _ _ _) aj5;refine wp_region ?_;refine al.mv (hv:=h5) hf.ops.Wi λa al=> ?_;refine al.st hf.ops.S5 (ju (q:=1) hf.ops.S5 rfl rfl aah) λa al=> ?_;refine al.vd hf.ops.Ya λa al=> ?_;refine wp_region ?_;refine al.mv (hv:=h6) hf.ops.Yb λa al=> ?_;refine al.st hf.ops.Wj (ju (q:=1) hf.ops.Wj rfl rfl aah) λa al=> ?_;refine al.vd hf.ops.Yc λa al=> ?_;refine ⟨⟨_,al,h0,h1,i+1,j+1,aah,aah,rfl,rfl,_,sk2,_,φ3,yj++[xs[j]],by rw [hW4];exact iy _ ab5,by rw [e3];rfl,aj6,⟨?_,?_,by rw [ab3,hR.len];rfl,?_⟩⟩,?_⟩
      .grind [agv,ab3,IN,ad8]
      .rw [show (i+1) *E.size=i *E.size+E.size from afj _ _];have h9:(qG.toList.take (i *E.size)++Qp).length=i *E.size+E.size:=by rw [ab3,IN,BP,hl];omega
       rw [<-h9,alA];exact (hR.done.mono t1.ph).append ⟨Qp,[],aaS,hl,eu.mono t1.ph,rfl⟩
      .have h8:cells.drop ((j+1) *E.size)=(qG.toList.take (xs.length *E.size)).drop ((j+1) *E.size):=by rw [show (j+1) *E.size=j *E.size+E.size from afj _ _,<-ahU,<-ahU,hR.rest]
       rw [h8];apply aga;intro q;have Fz:(j+1) *E.size=j *E.size+E.size:=afj _ _;rw [aev,aev,ae1,ae1];split
       .have h9:(qG.toList.take (i *E.size)++Qp).length=i *E.size+E.size:=by rw [ab3,IN,BP,hl];omega
        rw [aer (by grind),h9,aev];congr 1;omega
       .rfl
      .have:a.tmps.getD 6 undef= .int .i64 ((j+1:Nat):Int):=by rw [al.get 6];rfl
       rw [this];simp;omega
 grind [tm2]
def afv (hf:ab4 P f t ti tb fu fi el fn r o)(hfi:ab0 P fi t ti el fni ri oi)(hT:fw P c.ti)(hE:c.tv el=some E)(eh:E.st=true)(fj:0<E.size):Pa P c f el:=by
 refine ⟨?_⟩;intro S Inv step g lb hp v0 xs ys w Z0 φ0 s0 s' JQ fQ JL hinv ja iu hd;have ⟨mn,nR⟩:=aM hE;have ⟨I,cells,hI,SX,dI,jk,n9⟩:=fQ.row;rw [mn] at hI;cases hI;have dI:w.ownsRow 0 el E.size v0 xs.length cells:=dI;have pv: ∀b,v0.ownBlock=some b-> ∀off,φ0 b off=none:=by
  intro b hb off;cases h:φ0 b off with
  |none=>rfl
  |some u=>have:=((n9 b hb).2.1 off u h).1;cases this
 rcases dI.2 with ⟨rfl,h0⟩|⟨gb,cap,cD,rfl,_,bW,TE,HF,xu,SY⟩
 .have hx:xs=[]:=ahF h0;subst hx;refine lH hf.pos hf.name hf.body ((RH (ob:=none) (g0:=0) (cD:= #[]) hf hfi hp hT hE eh fj (cp:=0) JQ (λh=>absurd h aaS) (λb hb=>by cases hb) jk aaS hinv ja iu hd).mono ?_);rintro e W ⟨v,rfl,Z,φ,hW,h1⟩;rcases h1 with ⟨rfl,rfl,_⟩|⟨h1,_⟩
  .exact ⟨_,rfl,Z,φ,hW,⟨E,[],mn,nR,⟨aaS,.inl ⟨rfl,rfl⟩⟩,rfl,λaQ hb=>by simp [aeb] at hb⟩,λ_ h=>h⟩
  .simp at h1
 .have dh:=a8 bW;have aso:xs.length<2^63:=by unfold Go.maxLen at HF;omega
  refine lH hf.pos hf.name hf.body ((RH (ob:=some gb) (g0:=gb) hf hfi hp hT hE eh fj (cp:=cap) JQ (λh=>⟨rfl,rfl,bW,SY,TE,xu⟩) (λb hb=>by cases hb;exact ⟨JL gb rfl,dh,pv gb rfl⟩) jk aso hinv ja iu hd).mono ?_);rintro e W ⟨v,rfl,Z,φ,hW,h1⟩;rcases h1 with ⟨rfl,rfl,h2⟩|⟨h0,rfl,qG,h2,h3,h4⟩
  .refine ⟨_,rfl,Z,φ,hW,⟨E,cells,mn,nR,⟨dI.1,.inr ⟨gb,cap,cD,rfl,aef _,(h2 gb rfl).trans bW,TE,HF,xu,SY⟩⟩,jk.mono hW.tr.ph,λaQ hb=>⟨hb,λoff u hu=> ?_,λhc=>hc.elim⟩⟩,λ_ h=>h⟩;have hu:φ aQ off=some u:=hu;rw [hW.free aQ off hb] at hu;cases hu
  .have hle:ys.length<=cap:=aez (abO hd) TE;refine ⟨_,rfl,Z,φ,hW,⟨E,qG.toList.take (ys.length *E.size),mn,nR,⟨?_,.inr ⟨gb,cap,qG,rfl,aef _,?_,hle,HF,h3,rfl⟩⟩,h4,λaQ hb=>⟨hb,λoff u hu=> ?_,λhc=>hc.elim⟩⟩,λ_ h=>h⟩
   .exact h4.length
   .exact h2
   .have hu:φ aQ off=some u:=hu;rw [hW.free aQ off hb] at hu;cases hu
end
section
variable {P:Program}{c:Ctx}{ops:Array Oper}{N:Act->World->Prop}{φ:Ph}{o:Oper}{a:Act}{w w':World}{n:Nat}{σ:Nat->Value}{Q:Exit->Act->World->Prop}{d:Nat}{e:Operand->Value}
structure DS (c:Ctx) (ops:Array Oper) (pre rest:List Nat) (listed:Array Bool):Prop where
 lst:ZQ ops listed pre
 dr:qA c ops.toList pre rest=true
 all: ∀i,i<ops.size->i∈pre\/i∈rest
 lt: ∀i∈pre,i<ops.size
 sel: ∀(j:Nat) (o:Oper) cs b,ops[j]? =some o->o.op≠ .select cs b
def DS.facts {x:Nat}{rest pre:List Nat}{listed:Array Bool}(h:DS c ops pre (x::rest) listed)(hx:ops[x]? =some o): x∉pre/\x∉rest/\x∈sh .any ops listed/\DS c ops (x::pre) rest (listed.setIfInBounds x true)/\ (bif fK o&&!eY c o then qz c ops.toList o [x] rest else (rest.all λy=>match ops.toList[y]? with
   |some p=>bif HD p then I4 ops.toList p o&&aiK c p else Fl p (λi=>ad9 i x||(bB rest i&&!aiL ops.toList i))
   |none=>false))=true:=by
 have T3:x<ops.size:=(by grind)
 have hd:=h.dr;have hox:ops.toList[x]? =some o:=by simpa using hx
 simp only [qA,hox] at hd;simp only [bo,aea] at hd;have ⟨⟨⟨⟨d1,d2⟩,d3⟩,d4⟩,d5⟩:=hd;have JN:x∉pre:=by rw [<-bm,d2];simp
 have JO:x∉rest:=by rw [<-bm,d3];simp
 refine ⟨JN,JO,?_,⟨h.lst.set T3,d5,?_,?_,h.sel⟩,?_⟩
 .refine mem_ready.2 ⟨(h.lst.ot T3).2 JN,o,hx,λed hed hb=> ?_⟩;have:=OF.1 d1 ed (by simpa using hed);simp only [wC,hb,akp,akq] at this;have hm:=(bm _ _).1 this;exact (h.lst.done (h.lt _ hm)).2 hm
 .intro i hi;rcases h.all i hi with h1|h1;all_goals grind
 .intro i hi;rcases aee.1 hi with rfl|hi
  .exact T3
  .exact h.lt i hi
 .exact d4
theorem afx {o:Oper}(h:mR o=true):jq c o=true:=by simp [jq,h]
def DS.read {x d:Nat}{rest pre:List Nat}{listed:Array Bool}{op:Op}{v:Value}(h:DS c ops pre (x::rest) listed)(hx:ops[x]? =some o)(ho:ai o d op)(hd:d<n)(ZS:fK o=true)(hmv:eY c o=false)(eh:still c o=false)(hlk:zN o=none)(al:Tm a n σ)(hi:ni φ w)(bF: ∀w',(mR o=true->cq w w')->(execOp (ev σ) o).run P w'= .ok (.value v) w')(Cg: ∀a',Tm a' n (lp σ d v)->DS c ops (x::pre) rest (listed.setIfInBounds x true)->zi P c ops N φ rest.length (listed.setIfInBounds x true) a' w):zi P c ops N φ (rest.length+1) listed a w:=by
 have ⟨JN,JO,CQ,uy,d4⟩:=h.facts hx;simp only [ZS,hmv,Bool.not_false,Bool.and_self,cond_true] at d4;obtain ⟨D,D1,D2,D3,D4⟩:=vT rest [x] d4 (λy hy dt=>absurd (by simpa using hy) dt);have hL:=h.lst;refine xG (v:=v) D3 hx h.sel rest.length listed a w ?_ ?_ CQ ?_ hi ?_
 .intro j oj hoj hjD hjx T0;have Rt:j<ops.size:=(by grind)
  have hjr:j∈rest:=by
   rcases h.all j Rt with h1|h1
   .exact absurd h1 ((hL.ot Rt).1 T0)
   .grind
  grind [pK]
 .intro d hd;have hdn:d∉pre:=by
   rcases D2 d hd with h1|h1
   .grind
   .grind [lG,uy.dr]
  by_cases Rl:d<ops.size
  .cases hg:listed.getD d false with
   |false=>rfl
   |true=>exact absurd ((hL.done Rl).1 hg) hdn
  .have hl: ¬d<listed.size:=by rw [hL.size];exact Rl
   simp [hl]
 .refine .inl ⟨by simp [BY,ho.guard],λw' hg=> ?_⟩;grind [al.eval,afx,dP,TQ]
 .rw [ho.dst];exact Cg _ (al.put hd v) uy
def DS.anP {x:Nat}{rest pre:List Nat}{listed:Array Bool}(h:DS c ops pre (x::rest) listed)(hx:ops[x]? =some o)(Ra: ∀y∈rest,∀p,ops[y]? =some p->HD p=false)(hnr:(fK o&&!eY c o)=false)(hw:wpOp P ops (oq N) x (λa' w'=>((∀oi,pK c oi ops x=true->dP c oi w w')/\ni φ w')/\zi P c ops N φ rest.length (listed.setIfInBounds x true) a' w') a w):zi P c ops N φ (rest.length+1) listed a w:=by
 have ⟨JN,JO,CQ,uy,d4⟩:=h.facts hx;simp only [hnr,cond_false] at d4;refine ⟨(by grind),λi hi=> ?_⟩;have ⟨hun,oi,hoi,T4⟩:=mem_ready.1 hi;have X2:i<ops.size:=(by grind)
 have zY:=(h.lst.ot X2).1 hun;by_cases ZR:i=x
 .grind
 .have hir:i∈rest:=by
   rcases h.all i X2 with h1|h1
   .grind
   .exact (aee.1 h1).resolve_left ZR
  have h1:=OF.1 d4 i hir;have ajN:ops.toList[i]? =some oi:=by simpa using hoi
  simp only [ajN,Ra i hir oi hoi,cond_false] at h1;have ⟨ed,hed,hb⟩:=afh.1 h1;simp at hb;have V4:=T4 ed (by simpa using hed) hb.1;have sB:ed.on=x\/ed.on∈rest:=by
   rcases hb.2 with h2|h2
   .simp_all
   .grind [bm]
  have dh:ed.on<listed.size:=by apply Decidable.byContradiction;intro hh;simp [hh] at V4
  have hm:=(h.lst.done (by rw [<-h.lst.size];exact dh)).1 V4;grind [lG,uy.dr]
theorem DS.done {pre:List Nat}{listed:Array Bool}(h:DS c ops pre [] listed)(hN:N a w):zi P c ops N φ 0 listed a w:=by
 refine ⟨?_,hN⟩;cases hr:sh .any ops listed with
 |nil=>rfl
 |cons i is=>
  have hi:i∈sh .any ops listed:=by rw [hr];simp
  have ⟨h1,o,ho,_⟩:=mem_ready.1 hi;have dh:i<ops.size:=(by grind)
  exact absurd ((h.all i dh).resolve_right aaS) ((h.lst.ot dh).1 h1)
def RI {id:Nat}{ord:List Nat}(hm:P.follows .mixedOrders=true)(hd:sK c ops ord=true)(h: ∀listed,DS c ops [] ord listed->zi P c ops (λa w=>Q .normal a w) φ ord.length listed a {w with drawn:=w.drawn+1}):(als id ops true).wp P Q a w:=by
 simp only [sK,bo] at hd;have ⟨⟨⟨hns,hl0⟩,rV⟩,hd⟩:=hd;have O9: ∀(j:Nat) (o:Oper) cs b,ops[j]? =some o->o.op≠ .select cs b:=by intro j o cs b ho he;have:=OF.1 hns o (by grind);simp [he] at this
 have hlen:ord.length=ops.size:=by have:=AT hl0;simpa using this
 refine ahR (Q:=oq λa w=>Q .normal a w) ?_ (wp_region_any hm (Rq (c:=c) (φ:=φ) _ _ _ _ ?_))
 .intro x a' w' hx;cases x<;>first|exact hx|exact hx.elim
 .rw [<-hlen];exact h _ ⟨⟨by simp [hlen],(by simp_all)⟩,hd,λi hi=> .inr ((bm _ _).1 (by grind)),aaS,O9⟩
def jv {t f g off q:Nat}{x:Operand}{I:TI}(ho:ai o d (.fieldAddr t x f))(hT:fw P c.ti)(hI:c.tv t=some I)(eh:I.st=true)(hq:I.vN[f]? =some q)(hx:e x= .pointer (some ⟨g,off,none⟩))(w:World):(execOp e o).run P w= .ok (.value (.pointer (some ⟨g,off+q,none⟩))) w:=by
 have ⟨lC,hc⟩:=aM hI;have ⟨d,i,h1,h2,h3,h4⟩:=hT t I lC;cases d<;>simp only [qD] at h4;case struct fs=>
  have ⟨_,_,_,ho1,cV,VJ,_⟩:=h4;rw [<-ho1,List.getElem?_map] at hq;cases hf:fs.toList[f]? with
  |none=>grind
  |some fl=>
   simp [hf] at hq;have hf':fs[f]? =some fl:=by simpa using hf
   have ⟨J,hJ,hJc,hJs⟩:=VJ f fl hf';have ⟨ij,ZF,hs,_⟩:=(hT _ _ hJ).info hJc;have hz:ij.size≠0:=aah
   simp [execOp,ho.op,hx,Instr.fieldAt,run_underlying h1,hf',Instr.sureAddr,fieldPlace,afS,typeInfo,ZF,hz,aei]
 all_goals grind
def j7 {t g off:Nat}{I:TI}{v:Value}(hT:fw P c.ti)(hI:c.tv t=some I)(eh:I.st=false)(hs:I.size=1)(hm:w.cell? ⟨g,off,none⟩=some v):(alo t (.pointer (some ⟨g,off,none⟩))).run P w= .ok v w:=by
 have ⟨lC,hc⟩:=aM hI;have hr:w.rangeAt g off [v]:=by
  intro j u hj;cases j with
  |zero=>grind
  |succ j=>simp at hj
 rcases jr (P:=P) (hT t I lC) hc (vs:=[v]) (by simp [hs]) hr with ⟨h,_⟩|⟨_,u,hu,h⟩;all_goals grind
theorem CT {t g off:Nat}{I:TI}{vs:List Value}(hT:fw P c.ti)(hI:c.tv t=some I)(eh:I.st=true)(hs:vs.length=I.size)(hm:w.rangeAt g off vs):(alo t (.pointer (some ⟨g,off,none⟩))).run P w= .ok (.agg vs.toArray) w:=by have ⟨lC,hc⟩:=aM hI;rcases jr (P:=P) (hT t I lC) hc hs hm with ⟨_,h⟩|⟨h,_⟩;all_goals grind
def rz {t:Nat}{x:Operand}{v:Value}(ho:ai o d (.load t x))(h:(alo t (e x)).run P w= .ok v w):(execOp e o).run P w= .ok (.value v) w:=by simp [execOp,ho.op,h]
def pL {x:Operand}{ad:Addr}(ho:ai o d (.nilCheck x))(hx:e x= .pointer (some ad))(w:World):(execOp e o).run P w= .ok (.value (.pointer (some ad))) w:=by simp [execOp,ho.op,hx]
def afy {t el:TypeId}{x y:Operand}{g off n cp j size:Nat}{i:TypeInfo}(ho:ai o d (.indexAddr t x y))(hu:P.underlying t=some (.slice el))(hi:P.info? el=some i)(hs:i.size=size)(hx:e x= .slice (some ⟨g,off,none⟩) n cp)(hy:e y= .int .i64 ((j:Nat):Int))(hj:j<n)(w:World):(execOp e o).run P w= .ok (.value (.pointer (some ⟨g,off+j *size,none⟩))) w:=by
 have h2: ¬n<=j:=aah
 simp [execOp,ho.op,hx,hy,alD,asIntOf,run_underlying hu,h2,afS,typeInfo,hi,hs,aei]
def Wp {t:Nat}{x:Operand}(ho:ai o d (.box t x))(w:World):(execOp e o).run P w= .ok (.value (.pointer (some ⟨w.heap.size,0,none⟩))) (w.alloc (.cells (e x).cells t)):=by simp [execOp,ho.op,Instr.box,newVar,newRow,newObj,alM]
def Wq {x:Operand}{t:TypeId}{g:Nat}{v:Value}(ho:ai o d (.call {callee:= .value (.func g),args:= #[x],argTypes:= #[t]})) (he:e (.func g)= .func (.func g) #[] #[]) (hx:e x=v) (w:World):(execOp e o).run P w=(callFunc g #[v]).run P w:=by grind [execOp,ho.op,resolve,invoke,aeo]
def Wr {x y:Operand}{t:Array TypeId}{g:Nat}{v u:Value}(ho:ai o d (.call {callee:= .value (.func g),args:= #[x,y],argTypes:=t})) (he:e (.func g)= .func (.func g) #[] #[]) (hx:e x=v) (hy:e y=u) (w:World):(execOp e o).run P w=(callFunc g #[v,u]).run P w:=by grind [execOp,ho.op,resolve,invoke,aeo]
def Ws {x y z:Operand}{t:Array TypeId}{g:Nat}{v u s:Value}(ho:ai o d (.call {callee:= .value (.func g),args:= #[x,y,z],argTypes:=t})) (he:e (.func g)= .func (.func g) #[] #[]) (hx:e x=v) (hy:e y=u) (hz:e z=s) (w:World):(execOp e o).run P w=(callFunc g #[v,u,s]).run P w:=by grind [execOp,ho.op,resolve,invoke,aeo]
end
def ab6 (r:Nat->Nat)(o:Nat->Oper):Code:= .seq (.region (r 0) #[o 0,o 1,o 2,o 3,o 4,o 5] false) (.block 0 (.loop (.seq (.region (r 1) #[o 6] false) (.seq (.cond (.tmp 12) .skip (.exit 0)) (.seq (.block 1 (.seq (.region (r 2) #[o 7,o 8,o 9,o 10,o 11] false) (.seq (.region (r 3) #[o 12,o 13] false) (.cond (.tmp 17) (.region (r 4) #[o 14,o 15,o 16] false) .skip)))) (.region (r 5) #[o 17,o 18] false))))))
structure afz (tS tb tB ti:Nat) (o:Nat->Oper):Prop where
 h0:ai (o 0) 6 (.move (.tmp 0))
 h1:ai (o 1) 7 (.nilCheck (.tmp 6))
 h2:ai (o 2) 8 (.fieldAddr tS (.tmp 7) 1)
 h3:ai (o 3) 9 (.load tb (.tmp 8))
 h4:ai (o 4) 10 (.call {callee:= .builtin .len,args:= #[.tmp 9],argTypes:= #[tb]})
 h5:ai (o 5) 11 (.move (.const (.int .i64 0)))
 h6:ai (o 6) 12 (.binOp .lss ti (.tmp 11) (.tmp 10) ti)
 h7:ai (o 7) 13 (.move (.tmp 11))
 h8:ai (o 8) 14 (.indexAddr tb (.tmp 9) (.tmp 11))
 h9:ai (o 9) 15 (.load tB (.tmp 14))
 Fz:ai (o 10) 4 (.assign (.tmp 13))
 Mr:ai (o 11) 5 (.assign (.tmp 15))
 LY:ai (o 12) 16 (.move (.tmp 5))
 JW:ai (o 13) 17 (.unOp .not tB (.tmp 16))
 Pe:ai (o 14) 18 (.move (.tmp 1))
 LZ:ai (o 15) 19 (.move (.tmp 4))
 Ir:ai (o 16) 20 (.call {callee:= .value (.tmp 18),args:= #[.tmp 19],argTypes:= #[ti]})
 Pf:ai (o 17) 21 (.binOp .add ti (.tmp 11) (.const (.int .i64 1)) ti)
 Qm:ai (o 18) 11 (.move (.tmp 21))
structure aj7 (P:Program) (f tS tb tB ti:Nat) (fn:Func) (r:Nat->Nat) (o:Nat->Oper):Prop where
 pos:P.funcs[f]? =some fn
 name:(fn.name== "runtime.NumGoroutine")=false
 tmps:fn.ntmps=22
 res:fn.results= #[]
 body:fn.body=some (ab6 r o)
 ops:afz tS tb tB ti o
 wG:P.underlying tb=some (.slice tB)
def aj8 {P:Program}{fn:Func}{n:Nat}{a:Act}{w:World} {σ:Nat->Value}{R:Value->World->Prop}(hr:fn.results= #[])(al:Tm a n σ)(h: ∀v,R v w):bodyPost P fn (λe W=> ∃v,e= .returned v/\R v W) .normal a w:=by refine ⟨al.defers,.tuple #[],?_,_,rfl,h _⟩;simp [results,hr]
section
variable {P:Program}{c:Ctx}{f tS tb tB ti:Nat}{fn:Func}{r:Nat->Nat}{o:Nat->Oper}{IS Ib IB:TI}{w:World}
end
structure ah4 (P:Program) (f fE tP t3:Nat) (fn:Func) (r:Nat) (o:Nat->Oper):Prop where
 pos:P.funcs[f]? =some fn
 name:(fn.name== "runtime.NumGoroutine")=false
 tmps:fn.ntmps=8
 res:fn.results= #[]
 body:fn.body=some (.region r #[o 0,o 1,o 2,o 3] false)
 h0:ai (o 0) 4 (.load tP (.tmp 1))
 h1:ai (o 1) 5 (.move (.tmp 0))
 h2:ai (o 2) 6 (.load t3 (.tmp 2))
 h3: ∃ts,ai (o 3) 7 (.call {callee:= .value (.func fE),args:= #[.tmp 4,.tmp 5,.tmp 6],argTypes:=ts})
structure CS where
 F:Int
 T:Int
 bl:List MV
 wl:List MV
 nl:List MV
 pl:List MV
def CS.ls (s:CS):List MV:=[.i .i64 s.F,.i .i64 s.T,.list s.bl,.list s.wl,.list s.nl,.list s.pl]
abbrev KS (f ty:Nat):List LK:=[.k (.i .i64),.k (.i .i64),.k .l,.k .l,.own f ty false,.k .l]
structure Six where
 b:Value
 w:Value
 n:Value
 p:Value
def Six.vs (s:CS)(v:Six):List Value:=[.int .i64 s.F,.int .i64 s.T,v.b,v.w,v.n,v.p]
structure RJ (c:Ctx) (Z:Nat->Prop) (φ:Ph) (W:World) (bc ty:Nat) (s:CS) (v:Six):Prop where
 heap: ∃T,W.heap[bc]? =some (.cells (v.vs s).toArray T (0,0))
 bI:Z bc
 free: ∀o,φ bc o=none
 b:il c.key φ [v.b] (.list s.bl)
 w:il c.key φ [v.w] (.list s.wl)
 p:il c.key φ [v.p] (.list s.pl)
 n:bU c (bn.plain Z) (mT c.key φ) W v.n ⟨ty,false,s.nl⟩
 off:v.n.ownBlock≠some bc
section
variable {P:Program}{c:Ctx}{Z:Nat->Prop}{φ:Ph}{W W':World}{bc ty f:Nat}{s:CS}
def ab7:Nk (KS f ty) s.ls=some ([.p (.i .i64 s.F),.p (.i .i64 s.T),.p (.list s.bl),.p (.list s.wl),.own f,.p (.list s.pl)],[(f,⟨ty,false,s.nl⟩)]):=by simp [Nk,CS.ls,KS,ck,kJ,iq,gC,gI,gL,gN,Qv]
def Pp {key:Nat->Nat}{vs:List Value}{m:MV}(h:il key φ vs m)(hm:m.one=true): ∃v,vs=[v]:=by have ⟨v,h1,_⟩:=h.one hm;exact ⟨v,h1⟩
def ez.six (h:ez c Z φ W bc (KS f ty) s.ls): ∃v,RJ c Z φ W bc ty s v:=by
 have ⟨cs,m,E,arr,T,h1,h2,h3,h4,h5,h6,h7⟩:=h;rw [ab7] at h1;simp at h1;have ⟨rfl,rfl⟩:=h1;have ⟨v0,r0,e0,⟨_,l0⟩,h5⟩:=h5;have ⟨v1,r1,e1,⟨_,l1⟩,h5⟩:=h5;have ⟨v2,r2,e2,⟨_,l2⟩,h5⟩:=h5;have ⟨v3,r3,e3,⟨_,l3⟩,h5⟩:=h5;obtain ⟨v4,r4,e4,⟨vn,rfl,_,hE⟩,h5⟩:=h5;have ⟨v5,r5,e5,⟨_,l5⟩,h5⟩:=h5;subst h5;cases l0;cases l1;obtain ⟨vb,rfl⟩:=Pp l2 rfl;obtain ⟨vw,rfl⟩:=Pp l3 rfl;obtain ⟨vp,rfl⟩:=Pp l5 rfl;have hf:aB [(f,(⟨ty,false,s.nl⟩:n8))] f=some ⟨ty,false,s.nl⟩:=by simp [aB]
 have hE:=hE _ hf;subst hE;have ⟨k1,k2⟩:=h6 f _ hf;refine ⟨⟨vb,vw,_,vp⟩,⟨T,?_⟩,h3,h4,l2,l3,l5,k1.env rfl rfl,k2⟩;have:arr=(Six.vs s ⟨vb,vw,E f,vp⟩).toArray:=by apply aeU.1;rw [e0,e1,e2,e3,e4,e5];rfl
 rw [<-this];exact h2
def RJ.cell {v:Six}(h:RJ c Z φ W bc ty s v):ez c Z φ W bc (KS f ty) s.ls:=by
 have ⟨T,hh⟩:=h.heap;have j0:v.n.oneCell'=true:=by obtain ⟨I,cells,q1,q2,q3,q4,q5⟩:=h.n.row;rcases q3.2 with ⟨h1,_⟩|⟨g,cap,cD,h1,_⟩<;>rw [h1]<;>rfl
 have hf: ∀f' o',aB [(f,(⟨ty,false,s.nl⟩:n8))] f'=some o'->f'=f/\o'=⟨ty,false,s.nl⟩:=by
  intro f' o' ho;simp only [aB,eQ] at ho;by_cases jt:f=f'
  .subst jt;simp at ho;exact ⟨rfl,ho.symm⟩
  .simp [jt] at ho
 refine ⟨_,_,λ_=>v.n,_,T,ab7,hh,h.bI,h.free,?_,?_,?_⟩
 .exact ⟨[_],_,rfl,⟨rfl,.i _ _⟩,[_],_,rfl,⟨rfl,.i _ _⟩,[_],_,rfl,⟨rfl,h.b⟩,[_],_,rfl,⟨rfl,h.w⟩,[_],_,rfl,⟨_,rfl,j0,λ_ _=>rfl⟩,[_],_,rfl,⟨rfl,h.p⟩,rfl⟩
 .intro f' o' ho;obtain ⟨rfl,rfl⟩:=hf f' o' ho;exact ⟨h.n.env rfl rfl,h.off⟩
 .intro f1 f2 o1 o2 k h1 h2 _ _;exact (hf f1 o1 h1).1.trans (hf f2 o2 h2).1.symm
def ez.frame {aQ:Nat}{ks:List LK}{ls:List MV}(h:ez c Z φ W aQ ks ls)(uw:W.heap.size<=W'.heap.size)(kW: ∀b,Z b->b<W.heap.size->W'.heap[b]? =W.heap[b]?):ez c (λb=>Z b/\b<W.heap.size) φ W' aQ ks ls:=by
 have ⟨cs,m,E,arr,T,k1,k2,k3,k4,k5,k6,k7⟩:=h;have dh:=a8 k2;refine ⟨cs,m,E,arr,T,k1,(kW aQ k3 dh).trans k2,⟨k3,dh⟩,k4,k5,λf' o' ho=>⟨?_,(k6 f' o' ho).2⟩,k7⟩;have ⟨I,cells,q1,q2,q3,q4,q5⟩:=(k6 f' o' ho).1.row;refine ⟨I,cells,q1,q2,⟨q3.1,?_⟩,q4,λb hb=>⟨⟨(q5 b hb).1,Jl q3 hb⟩,(q5 b hb).2⟩⟩;rcases q3.2 with h6|⟨g,cap,cD,r1,r2,r3,r4⟩
 .exact .inl h6
 .exact .inr ⟨g,cap,cD,r1,r2,(kW g (q5 g (by rw [r1];rfl)).1 (a8 r3)).trans r3,r4⟩
def ez.more {φ':Ph}{aQ:Nat}{ks:List LK}{ls:List MV}(h:ez c Z φ W aQ ks ls)(hp:gx φ φ')(hz: ∀b o,Z b->φ' b o=φ b o):ez c Z φ' W aQ ks ls:=by
 have ⟨cs,m,E,arr,T,k1,k2,k3,k4,k5,k6,k7⟩:=h;have sB:jT (λ_=>True) (λ_=>True) ⟨c.key,φ,E,λ_=>aQ,m⟩ ⟨c.key,φ',E,λ_=>aQ,m⟩:=⟨rfl,hp,λ_ _=>rfl,λf o ho _=>⟨o,ho,rfl,rfl⟩⟩
 refine ⟨cs,m,E,arr,T,k1,k2,k3,λo=>by rw [hz aQ o k3];exact k4 o,k5.on sB (λ_ _ _ _=>trivial),λf' o' ho=>⟨?_,(k6 f' o' ho).2⟩,k7⟩;have ⟨I,cells,q1,q2,q3,q4,q5⟩:=(k6 f' o' ho).1.row;refine ⟨I,cells,q1,q2,q3,q4.mono hp,λb hb=>⟨(q5 b hb).1,λoff u hu=>(q5 b hb).2.1 off u ?_,λhc=>hc.elim⟩⟩;have hu:φ' b off=some u:=hu;rw [hz b off (q5 b hb).1] at hu;exact hu
theorem bU.still {v:Value}{xs:List MV}(h:bU c (bn.plain Z) (mT c.key φ) W v ⟨ty,false,xs⟩)(hi:ni φ W): ∃φ',gx φ φ'/\ni φ' W/\(∀b o,v.ownBlock≠some b->φ' b o=φ b o)/\il c.key φ' [v] (.list xs):=by
 have ⟨I,cells,hI,SX,dI,jk,hz⟩:=h.row;have hlen:=jk.length;have Ra: ∀b,v.ownBlock=some b-> ∀off,φ b off=none:=by
  intro b hb off;cases hq:φ b off with
  |none=>rfl
  |some u=>exact absurd ((hz b hb).2.1 off u hq).1 aaS
 have hle:gx φ (kV φ v cells):=by
  intro b off u hu;unfold kV;by_cases hc:v.ownBlock=some b/\off<cells.length
  .rw [Ra b hc.1 off] at hu;cases hu
  .rw [if_neg hc];exact hu
 refine ⟨kV φ v cells,hle,?_,λb o hb=>by unfold kV;simp [hb],?_⟩
 .intro b off u hu;unfold kV at hu;by_cases hc:v.ownBlock=some b/\off<cells.length
  .rw [if_pos hc] at hu;rcases dI.2 with ⟨hE,_⟩|⟨g,cap,cD,hE,_,hg,hn,HF,xu,SY⟩
   .rw [hE] at hc;simp [aeb] at hc
   .rw [hE] at hc;simp only [aeb,ad0] at hc;have ⟨hb,ho⟩:=hc;subst hb;rw [cell_of hg];rw [<-SY,ae1] at hu;have auV:cells.length=xs.length *I.size:=hlen;have cV:off<xs.length *I.size:=aah
    simp only [cV,if_true] at hu;simpa using hu
  .rw [if_neg hc] at hu;exact hi _ _ _ hu
 .have zU:=jk.mono hle;rcases dI.2 with ⟨hE,hn⟩|⟨g,cap,cD,hE,_,hg,hn,HF,xu,SY⟩
  .have hx:xs=[]:=ahF hn;rw [hE,hx];exact .list none 0 [] 0 0 0 (λ_=>[]) aaS aaS aaS aaS aaS
  .have hv:[v]=[alJ (some ⟨g,0,none⟩) xs.length cap]:=by rw [hE]
   rw [hv];have Tx: ∀i (hi:i<xs.length),∃v1,v1.length=I.size/\il c.key (kV φ v cells) v1 xs[i]/\(cells.drop (i *I.size)).take I.size=v1:=by intro i hi;obtain ⟨p1,v1,p2,he,GR,uR,eu⟩:=zU.at (aeP hi);refine ⟨v1,uR,eu,?_⟩;rw [he,ae8,<-GR,List.drop_left,<-uR,alA]
   refine .list (some ⟨g,0,none⟩) cap xs g 0 I.size (λi=>(cells.drop (i *I.size)).take I.size) hn (λ_=>rfl) ?_ ?_ ?_
   .intro i hi;have ⟨v1,h1,_,h3⟩:=Tx i hi;rw [h3,h1]
   .intro i j hi hj;have hb:v.ownBlock=some g:=by rw [hE];rfl
    have Xv:i *I.size+j<cells.length:=by
     rw [hlen];calc i *I.size+j<i *I.size+I.size:=aah
      _=(i+1) *I.size:=by rw [afj]
      _<=xs.length *I.size:=ad7 _ hi
    unfold kV;simp_all
   .intro i hi;have ⟨v1,_,h2,h3⟩:=Tx i hi;rw [h3];exact h2
def NP (φ:Ph)(b:Nat)(vs:List Value):Ph:=λb' o=>if b'=b then vs[o]? else φ b' o
def J3 {b:Nat}{vs:List Value}(h: ∀o,φ b o=none):gx φ (NP φ b vs):=by
 intro b' o u hu;unfold NP;by_cases hb:b'=b
 .subst hb;rw [h] at hu;cases hu
 .rw [if_neg hb];exact hu
def Eo {b:Nat}{vs:List Value}{T:TypeId}(hi:ni φ W)(hh:W.heap[b]? =some (.cells vs.toArray T (0,0))):ni (NP φ b vs) W:=by
 intro b' o u hu;unfold NP at hu;by_cases hb:b'=b
 .subst hb;rw [cell_of hh];simpa using hu
 .rw [if_neg hb] at hu;exact hi _ _ _ hu
theorem RJ.still {v:Six}(h:RJ c Z φ W bc ty s v)(hi:ni φ W): ∃φ',gx φ φ'/\ni φ' W/\(∀b o,¬Z b->φ' b o=φ b o)/\fq c.key φ' (v.vs s) s.ls/\ ∀j,j<6->φ' bc j=(v.vs s)[j]? :=by
 have ⟨φ1,k1,k2,k3,k4⟩:=h.n.still hi;have ⟨T,hh⟩:=h.heap;have pv: ∀o,φ1 bc o=none:=λo=>by rw [k3 bc o h.off];exact h.free o
 have hle:=J3 (vs:=v.vs s) pv;have hz: ∀b,v.n.ownBlock=some b->Z b:=by obtain ⟨I,cells,_,_,_,_,q5⟩:=h.n.row;exact λb hb=>(q5 b hb).1
 refine ⟨NP φ1 bc (v.vs s),k1.trans hle,Eo k2 hh,λb o hb=> ?_,?_,λj hj=>by simp [NP]⟩
 .have h1:b≠bc:=λe=>hb (by rw [e];exact h.bI);unfold NP;rw [if_neg h1];exact k3 b o λe=>hb (hz b e)
 .have m:=k1.trans hle;exact .cons [_] _ _ _ (.i _ _) (.cons [_] _ _ _ (.i _ _) (.cons [_] _ _ _ (h.b.mono m) (.cons [_] _ _ _ (h.w.mono m) (.cons [_] _ _ _ (k4.mono hle) (.cons [_] _ _ _ (h.p.mono m) .nil)))))
end
def J4 (W:World)(b:Nat)(v:Int):Prop:= ∃T,W.heap[b]? =some (.cells #[.int .i64 v] T (0,0))
structure CI0 (c:Ctx) (φ0:Ph) (w0:World) (φ1:Ph) (bc bv br f ty:Nat) (s:CS) (v:Int) (W:World) (Z:Nat->Prop) (φ:Ph):Prop where
 cell:ez c Z φ W bc (KS f ty) s.ls
 jU:ni φ W
 tr:Trans (λb=>w0.heap.size<=b) φ0 w0 φ W
 base:gx φ1 φ
 sub: ∀b,Z b->w0.heap.size<=b
 hv:J4 W bv v
 zv: ¬Z bv
 fv: ∀o,φ bv o=none
 nv:w0.heap.size<=bv
 hr: ∃arr T,W.heap[br]? =some (.cells arr T (0,0))/\arr.size=6
 zr: ¬Z br
 fr: ∀o,φ br o=none
 nr:w0.heap.size<=br
 ne:br≠bv
def CI (c:Ctx) (φ0:Ph)(w0:World) (φ1:Ph)(bc bv br f ty:Nat)(s:CS)(v:Int)(W:World):Prop:= ∃Z φ,CI0 c φ0 w0 φ1 bc bv br f ty s v W Z φ
section
variable {P:Program}{c:Ctx}{φ0 φ1:Ph}{w0 W W':World}{bc bv br f ty:Nat}{s s':CS}{v v':Int}{Z:Nat->Prop}{φ:Ph}
def sC {W W':World}{b:Nat}{o:Nat}{u:Value}(h:W.cell? ⟨b,o,none⟩=some u)(hs:b<W.heap.size->W'.heap[b]? =W.heap[b]?):W'.cell? ⟨b,o,none⟩=some u:=by have hl:=No W _ h;rw [aeg (hs hl)];exact h
def CI0.same (h:CI0 c φ0 w0 φ1 bc bv br f ty s v W Z φ)(hs:W.heap.size<=W'.heap.size)(hr:Rest W W')(hold: ∀b,b<W.heap.size->b≠bv->W'.heap[b]? =W.heap[b]?)(hv:J4 W' bv v'):CI0 c φ0 w0 φ1 bc bv br f ty s v' W' (λb=>Z b/\b<W.heap.size) φ:=by
 have hzv: ∀b,Z b->b≠bv:=λb hb e=>h.zv (by rw [<-e];exact hb);have ⟨arr,T,CJ,QG⟩:=h.hr;refine ⟨h.cell.frame hs λb hb hl=>hold b hl (hzv b hb),λb o u hu=> ?_,⟨h.tr.ph,λb hb hl=> ?_,h.tr.free,aez h.tr.size hs,h.tr.rest.trans hr⟩,h.base,λb hb=>h.sub b hb.1,hv,λhb=>h.zv hb.1,h.fv,h.nv,⟨arr,T,?_,QG⟩,λhb=>h.zr hb.1,h.fr,h.nr,h.ne⟩
 .refine sC (h.jU b o u hu) λhl=>hold b hl λe=> ?_;rw [e,h.fv] at hu;cases hu
 .have uR:b<W.heap.size:=alb hl h.tr.size;rw [hold b uR (λe=>hb (by rw [e];exact h.nv))];exact h.tr.heap b hb hl
 .rw [hold br (a8 CJ) h.ne];exact CJ
def J4.same {b:Nat}{v:Int}(h:J4 W b v)(he:b<W.heap.size->W'.heap[b]? =W.heap[b]?):J4 W' b v:=by have ⟨T,hT⟩:=h;exact ⟨T,by rw [he (a8 hT)];exact hT⟩
def CI0.grow {φ2 φ3:Ph}(h:CI0 c φ0 w0 φ1 bc bv br f ty s v W Z φ)(ht:Trans (λb=>W.heap.size<=b) φ2 W φ3 W'):CI0 c φ0 w0 φ1 bc bv br f ty s v W' (λb=>Z b/\b<W.heap.size) φ:=h.same ht.size ht.rest (λb hl _=>ht.heap b aah hl) (h.hv.same λhl=>ht.heap bv aah hl)
def J4.cell {b:Nat}{v:Int}(h:J4 W b v):W.cell? ⟨b,0,none⟩=some (.int .i64 v):=by have ⟨T,hT⟩:=h;rw [cell_of hT];rfl
def CI.call {g:Nat}{vs:List Value}{ms:List MV}{r:MV}(h:CI c φ0 w0 φ1 bc bv br f ty s v W)(hg:c.bK (c.key g)=true)(zh:c.sig (c.key g)=some (0,KS f ty,KS f ty))(hS:dJ P c g (.cell (.func 0 s.ls)::ms) (.im r s'.ls))(di: ∀φ,gx φ1 φ->ni φ W->aL c.key φ vs ms):da P g (.pointer (some ⟨bc,0,none⟩)::vs).toArray W λ_ W'=>CI c φ0 w0 φ1 bc bv br f ty s' v W':=by
 have ⟨Z,φ,h⟩:=h;have pi:bv<W.heap.size:=by obtain ⟨T,hT⟩:=h.hv;exact a8 hT
 have ⟨arr,T,CJ,QG⟩:=h.hr;have hlr:=a8 CJ;have qE:ez c (λb=>Z b\/W.heap.size<=b) φ W bc (KS f ty) s.ls:=h.cell.wide λb hb=> .inl hb;have zY:cv c (λb=>Z b\/W.heap.size<=b) φ W (c.key g) (.pointer (some ⟨bc,0,none⟩)::vs) (.cell (.func 0 s.ls)::ms):=by simp only [cv,hg,if_true];exact .inr (.inr ⟨0,KS f ty,KS f ty,0,s.ls,bc,zh,rfl,rfl,⟨_,_,rfl,⟨rfl,.rp bc 0 [] [] .nil aaS⟩,di φ h.base h.jU⟩,qE⟩)
 refine (hS φ W (λb=>Z b\/W.heap.size<=b) _ (λb hb=> .inr hb) zY h.jU).imp ?_;rintro x W' ⟨φ',t1,t2,pk,pos',ks',ko',anr,Tg,zf,VI,hc⟩;rw [zh] at zf;simp at zf;have ⟨rfl,rfl,rfl⟩:=zf;simp at VI;have ⟨rfl,_⟩:=VI;have hzv: ¬(Z bv\/W.heap.size<=bv):=λhb=>hb.elim h.zv aah;have hzr: ¬(Z br\/W.heap.size<=br):=λhb=>hb.elim h.zr aah;refine ⟨_,φ',hc,t2,h.tr.trans (t1.Aa λb hb=>hb.elim (h.sub b) (λhb=>aez h.tr.size hb)),h.base.trans t1.ph,λb hb=>hb.elim (h.sub b) (λhb=>aez h.tr.size hb),h.hv.same λhl=>t1.heap bv hzv hl,hzv,λo=>by rw [t1.free bv o hzv];exact h.fv o,h.nv,⟨arr,T,by rw [t1.heap br hzr hlr];exact CJ,QG⟩,hzr,λo=>by rw [t1.free br o hzr];exact h.fr o,h.nr,h.ne⟩
def CI.amV {φ2:Ph}(h:CI c φ0 w0 φ2 bc bv br f ty s v W)(hp:gx φ1 φ2):CI c φ0 w0 φ1 bc bv br f ty s v W:=by have ⟨Z,φ,h⟩:=h;exact ⟨Z,φ,{h with base:=hp.trans h.base}⟩
def Bh {g:Nat}{vs:List Value}{ms:List MV}{r:MV}(hg:c.bK (c.key g)=false)(hS:dJ P c g ms r)(hr:isW r=false)(di:aL c.key φ vs ms)(hi:ni φ W):da P g vs.toArray W λx W'=> ∃φ',Trans (λb=>W.heap.size<=b) φ W φ' W'/\ni φ' W'/\fA c (λb=>W.heap.size<=b) φ' W' (c.key g) x r:=by
 have zY:cv c (λb=>W.heap.size<=b) φ W (c.key g) vs ms:=by simp only [cv,hg,AS,if_false];exact di
 refine (hS φ W (λb=>W.heap.size<=b) _ (λb hb=>hb) zY hi).imp ?_;rintro x W' ⟨φ',t1,t2,t3⟩;exact ⟨φ',t1,t2,t3.of hr⟩
end
structure CK where
 cl:Nat
 ld:Nat
 is:Nat
 f1:Nat
 en:Nat
 de:Nat
 le:Nat
 sz:Nat
section
variable (g:Nat->List MV->Option MV)(k:CK)
end
def ab8 (r:Nat->Nat)(o:Nat->Oper):Code:= .seq (.region (r 0) #[o 0,o 1] false) (.seq (.region (r 1) #[o 2,o 3] false) (.seq (.region (r 2) #[o 4,o 5,o 6,o 7,o 8,o 9,o 10] false) (.seq (.region (r 3) #[o 11,o 12] false) (.seq (.region (r 4) #[o 13,o 14,o 15] false) (.seq (.block 0 (.loop (.seq (.seq (.region (r 5) #[o 16,o 17,o 18,o 19,o 20,o 21,o 22] true) (.cond (.tmp 21) .skip (.exit 0))) (.block 1 (.region (r 6) #[o 23,o 24,o 25] false))))) (.seq (.seq (.region (r 7) #[o 26,o 27] false) (.cond (.tmp 25) (.seq (.region (r 8) #[o 28,o 29] false) .ret) .skip)) (.seq (.region (r 9) #[o 30,o 31,o 32] false) (.seq (.seq (.region (r 10) #[o 33] false) (.block 2 (.loop (.seq (.seq (.region (r 11) #[o 34,o 35,o 36,o 37,o 38] false) (.cond (.tmp 34) .skip (.exit 2))) (.seq (.block 3 (.seq (.region (r 13) #[o 39,o 40,o 41,o 42,o 43,o 44,o 45] false) (.seq (.region (r 14) #[o 46,o 47,o 48] false) (.region (r 15) #[o 49,o 50,o 51,o 52,o 53,o 54] true)))) (.region (r 12) #[o 55,o 56,o 57] false)))))) (.seq (.region (r 16) #[o 58,o 59] false) .ret)))))))))
structure afB (tS tP ti tN tM tm tZ tB tb tf fCl f1 fEa fLd fIs f2 f3 fLe:Nat) (o:Nat->Oper):Prop where
 h0:ai (o 0) 1 (.box tS (.tmp 0))
 h1:ai (o 1) 2 (.alloc tS)
 h2:ai (o 2) 3 (.alloc tP)
 h3:eO (o 3) (.store tP (.tmp 3) (.tmp 1))
 h4:ai (o 4) 7 (.fieldAddr tS (.tmp 1) 3)
 h5:ai (o 5) 8 (.load tN (.tmp 7))
 h6:ai (o 6) 9 (.call {callee:= .value (.func fCl),args:= #[.tmp 8],argTypes:= #[tN]})
 h7:ai (o 7) 10 (.fieldAddr tS (.tmp 1) 4)
 h8:eO (o 8) (.store tM (.tmp 10) (.const (.slice none 0 0)))
 h9:ai (o 9) 11 (.fieldAddr tS (.tmp 1) 3)
 Fz:eO (o 10) (.store tN (.tmp 11) (.tmp 9))
 Mr:ai (o 11) 4 (.alloc ti)
 LY:eO (o 12) (.store ti (.tmp 4) (.const (.int .i64 0)))
 JW:ai (o 13) 12 (.load tP (.tmp 3))
 Pe:ai (o 14) 13 (.makeFunc (.func f1) #[] #[.tmp 4,.tmp 1])
 LZ:ai (o 15) 14 (.call {callee:= .value (.func fEa),args:= #[.tmp 12,.tmp 13],argTypes:= #[tP,tf]})
 Ir:ai (o 16) 15 (.load tS (.tmp 1))
 Pf:ai (o 17) 16 (.fieldAddr tS (.tmp 1) 0)
 Qm:ai (o 18) 17 (.load tZ (.tmp 16))
 Rz:ai (o 19) 18 (.load ti (.tmp 4))
 S3:ai (o 20) 19 (.call {callee:= .value (.func fLd),args:= #[.tmp 17,.tmp 18],argTypes:= #[tZ,ti]})
 Qn:ai (o 21) 20 (.call {callee:= .value (.func fIs),args:= #[.tmp 15,.tmp 19,.const (.bool false)],argTypes:= #[tS,ti,tB]})
 S4:ai (o 22) 21 (.unOp .not tB (.tmp 20))
 Pg:ai (o 23) 22 (.load ti (.tmp 4))
 RB:ai (o 24) 23 (.binOp .add ti (.tmp 22) (.const (.int .i64 1)) ti)
 NK:eO (o 25) (.store ti (.tmp 4) (.tmp 23))
 Ua:ai (o 26) 24 (.load ti (.tmp 4))
 X9:ai (o 27) 25 (.binOp .gtr ti (.tmp 24) (.const (.int .i64 100000)) ti)
 Wg:ai (o 28) 26 (.load tS (.tmp 1))
 Wh:eO (o 29) (.store tS (.tmp 2) (.tmp 26))
 ZT:ai (o 30) 27 (.load tP (.tmp 3))
 Wi:ai (o 31) 28 (.makeFunc (.func f2) #[] #[.tmp 3,.tmp 4])
 S5:ai (o 32) 29 (.call {callee:= .value (.func fEa),args:= #[.tmp 27,.tmp 28],argTypes:= #[tP,tf]})
 Ya:ai (o 33) 5 (.assign (.const (.int .i64 0)))
 Yb:ai (o 34) 30 (.move (.tmp 5))
 Wj:ai (o 35) 31 (.fieldAddr tS (.tmp 1) 4)
 Yc:ai (o 36) 32 (.load tM (.tmp 31))
 Ub:ai (o 37) 33 (.call {callee:= .builtin .len,args:= #[.tmp 32],argTypes:= #[tM]})
 Wk:ai (o 38) 34 (.binOp .lss ti (.tmp 30) (.tmp 33) ti)
 Yd:ai (o 39) 37 (.fieldAddr tS (.tmp 1) 4)
 ZU:ai (o 40) 38 (.load tM (.tmp 37))
 Uc:ai (o 41) 39 (.move (.tmp 5))
 h42:ai (o 42) 40 (.indexAddr tM (.tmp 38) (.tmp 39))
 Ye:ai (o 43) 41 (.load tm (.tmp 40))
 ZV:ai (o 44) 6 (.alloc tm)
 h45:eO (o 45) (.store tm (.tmp 6) (.tmp 41))
 h46:ai (o 46) 42 (.load tP (.tmp 3))
 Wl:ai (o 47) 43 (.makeFunc (.func f3) #[] #[.tmp 3,.tmp 6])
 VM:ai (o 48) 44 (.call {callee:= .value (.func fEa),args:= #[.tmp 42,.tmp 43],argTypes:= #[tP,tf]})
 Ud:ai (o 49) 45 (.load tP (.tmp 3))
 S6:ai (o 50) 46 (.fieldAddr tS (.tmp 1) 0)
 h51:ai (o 51) 47 (.load tZ (.tmp 46))
 h52:ai (o 52) 48 (.load ti (.tmp 4))
 h53:ai (o 53) 49 (.call {callee:= .value (.func fLd),args:= #[.tmp 47,.tmp 48],argTypes:= #[tZ,ti]})
 h54:ai (o 54) 50 (.call {callee:= .value (.func fLe),args:= #[.tmp 45,.tmp 49],argTypes:= #[tP,ti]})
 h55:ai (o 55) 35 (.move (.tmp 5))
 h56:ai (o 56) 36 (.binOp .add ti (.tmp 35) (.const (.int .i64 1)) ti)
 h57:ai (o 57) 5 (.assign (.tmp 36))
 h58:ai (o 58) 51 (.load tS (.tmp 1))
 h59:eO (o 59) (.store tS (.tmp 2) (.tmp 51))
section
variable {P:Program}{c:Ctx}
end
def fT (size bytes:Nat):List MV->Option MV
 |[.list xs]=>bif rU size xs&&ad6 (xs.length *bytes) (2^46) then some (.fresh xs) else none
 |_=>none
def jm (bytes:Nat):List MV->Option MV
 |[.fresh xs,.i .i64 i,.fresh ys]=>bif decide (0<=i)&&(ad6 i.toNat xs.length&&(!ys.isEmpty&&ad6 ((xs.length+ys.length) *bytes) (2^46))) then some (.fresh (xs.take i.toNat++ys++xs.drop i.toNat)) else none
 |_=>none
def nU {size bytes:Nat}{ms:List MV}{r:MV}(h:fT size bytes ms=some r): ∃xs,ms=[.list xs]/\r= .fresh xs/\rU size xs=true/\xs.length *bytes<=2^46:=by
 unfold fT at h;split at h
 .rename_i xs;cases hb:rU size xs&&ad6 (xs.length *bytes) (2^46) with
  |false=>grind
  |true=>simp_all
 .cases h
def xJ {bytes:Nat}{ms:List MV}{r:MV}(h:jm bytes ms=some r): ∃xs ys i,ms=[.fresh xs,.i .i64 ((i:Nat):Int),.fresh ys]/\r= .fresh (xs.take i++ys++xs.drop i)/\i<=xs.length/\ys≠[]/\(xs.length+ys.length) *bytes<=2^46:=by
 unfold jm at h;split at h
 .rename_i xs i ys;obtain ⟨hb,h⟩:=ob h;simp only [ad0] at h;simp only [bo,decide_eq_true_eq,aea] at hb;obtain ⟨h1,h2,h3,h4⟩:=hb;refine ⟨xs,ys,i.toNat,?_,h.symm,IT h2,?_,IT h4⟩;all_goals grind
 .cases h
def db.none (P:Program)(c:Ctx):db P c (λ_ _=>Option.none):=⟨(by grind)⟩
def db.Ep {P:Program}{c:Ctx}{g:Nat->List MV->Option MV}{n:Nat}{F:List MV->Option MV}(h:db P c g)(Fs: ∀f,c.key f=f)(hF: ∀ms r,F ms=some r->dJ P c n ms r):db P c (aK n F g):=h.add (by grind)
def xK:Code->List Oper
 | .region _ ops _=>ops.toList
 | .seq x y=>xK x++xK y
 | .cond _ x y=>xK x++xK y
 | .block _ x=>xK x
 | .loop x=>xK x
 |_=>[]
def dA (fn:Func)(d:Oper)(k:Nat):Oper:=match fn.body with|some c=>(xK c).getD k d|none=>d
def Pq (o:Nat->Oper):Code:= .seq (.region 18 #[o 83,o 84,o 85,o 86,o 87] false) (.seq (.region 19 #[o 88,o 89,o 90,o 91,o 92] false) (.seq (.region 20 #[o 93,o 94] false) .ret))
def dB:Oper:={dst:=none,op:= .move (.tmp 0),type:=0,pos:= "",after:= #[],guard:=none}
def cellsD:Nat->DataW Unit->List Value
 |n+1,.agg ds=>ds.flatMap (cellsD n)
 |_,.lit (.int k v)=>[.int k v]
 |_,_=>[]
def Yf (cs:Array Value):Obj->Obj
 | .cells _ t z=> .cells cs t z
 |o=>o
def J5 (P:Program):List (String×DataW Unit)->Array Obj->Array Obj
 |[],h=>h
 |x::r,h=>match P.globalNamed x.1 with
  |some g=>J5 P r (h.modify g (Yf (cellsD 4 x.2).toArray))
  |none=>J5 P r h
noncomputable def anS (P:Program)(l:List (String×DataW Unit))(os:Os)(args:Array Value):World:={World.holding P os ⟨#[],args,[]⟩ with heap:=J5 P l (World.holding P os ⟨#[],args,[]⟩).heap}
def RL {a b:Bool}(h1:a=true)(h2:b=true):(a&&b)=true:=by grind
def BS:List Char:=[99,117,116].map alB
def anT:(BS== "gc".toList)=false:=aaM
def afC:(BS== "spec".toList)=false:=aaM
def aj9:(BS== "cut".toList)=true:=aaM
def Ug:(BS== "carried".toList)=false:=aaM
section
variable {P:Program}{L:List (List Char)}{ns:List Nat}{R:Type}
def NQ (h:P.initOrder=String.ofList (ns.map alB)):P.initOrder.toList=ns.map alB:=by simp_all
def afD {h s:List Char}(e:wordsSigns P.initOrder.toList=h::s::L)(h1:isSumSigns s=true)(h2:(h== "harness".toList)=true):P.mainIs=some (true,s):=by simp_all [Program.mainIs,akp,AS,if_false,if_true]
def afE (e:behindMainWord (wordsSigns P.initOrder.toList)=BS::L):P.make=some .cut:=by unfold Program.make;rw [e];simp only [anT,afC,aj9,Bool.or_false,AS,if_false,Bool.true_or,if_true]
def aka (e:behindMainWord (wordsSigns P.initOrder.toList)=BS::L)(h1:(stripLifts liftWords (BS::L)).1=[])(h2:((stripLifts liftWords (BS::L)).2.head? ==some "cut".toList)=true)
 (h3:P.doorFits []=true) (h4:P.laysLater=false) (h5:P.bearsReflect=false):P.mayEnter=true:=by
 unfold Program.mayEnter;grind
def ab9 (e:behindMainWord (wordsSigns P.initOrder.toList)=BS::L)(h1:(stripLifts liftWords (BS::L)).1=[]):P.liftsFinal=false:=by unfold Program.liftsFinal Program.headLifts;simp_all [BS,List.head?_cons,Ug,Bool.false_and,akq]
def afF {c:OpenClaim}(h:P.make=some .cut)(hc:c.make= .cut):(P.make==some c.make)=true:=by grind
def aca {c:OpenClaim}(h:P.liftsFinal=false)(hc:c.lifted=false):(c.lifted==P.liftsFinal)=true:=by grind
@[simp] def axr (x : Bool)(K : Bool -> Option R) : gB (.b x) K = K x := (rfl)
@[simp] def axs (k : IntKind)(x : Int)(K : Int -> Option R) : gI k (.i k x) K = K x := by simp [gI]
@[simp] def axt (x : List UInt8)(K : List UInt8 -> Option R) : gS (.s x) K = K x := (rfl)
@[simp] def axu (x : List MV)(K : List MV -> Option R) : gL (.list x) K = K x := (rfl)
@[simp] def axv (k : IntKind)(n : Nat)(x : List Int)(K : List Int -> Option R) : gH k n (.h k n x) K = K x := by simp [gH]
@[simp] def axw (x : List MV)(K : List MV -> Option R) : gA (.agg x) K = K x := (rfl)
@[simp] def axx (x : List MV)(K : List MV -> Option R) : gT (.cT x) K = K x := (rfl)
@[simp] def axy (x : List MV)(K : List MV -> Option R) : gF (.fresh x) K = K x := (rfl)
@[simp] def auW (f : Nat)(x : List MV)(K : Nat -> List MV -> Option R) : SR (.func f x) K = K f x := (rfl)
@[simp] def axz (f : Nat)(x : List MV)(K : MV -> Option R) : gR (.func f x) K = K (.func f x) := (rfl)
@[simp] def axA (m : MV)(r : List MV)(K : MV -> List MV -> Option R) : gC (m :: r) K = K m r := (rfl)
@[simp] def axB (K : Option R) : gN [] K = K := (rfl)
@[simp] theorem av {α : Type}(a : α)(K : α -> Option R) : bd (some a) K = K a := (rfl)
@[simp] def auX (a b : Nat) : ad9 a b = decide (a = b) := eQ a b
@[simp] def anU (K : Option R) : fh true K = K := (rfl)
@[simp] def anV (x y : Option R) : gk true x y = x := (rfl)
@[simp] def alG (x y : Option R) : gk false x y = y := (rfl)
end
def afG {x:Int}(h1: -9223372036854775808<=x)(h2:x<=9223372036854775807):aa0 .i64 x=x:=by grind [ahr]
def acb {i j:Nat}(h:i+j<2^62):aa0 .i64 (alC (aa0 .u64 (aa0 .i64 ((i:Int)+(j:Int)))) (2^min (akd 1) (ahl .u64)))=(((i+j)/2:Nat):Int):=by
 have h2:aa0 .u64 ((i+j:Nat):Int)=((i+j:Nat):Int):=by
  have:aa0 .u64 ((i+j:Nat):Int)=((i+j:Nat):Int)%18446744073709551616:=by simp [aa0,IntKind.signed,ahl]
  rw [this];omega
 grind [min,akd,ahl,Int.fdiv_eq_ediv_of_nonneg,ahr]
section
variable {σ R:Type}{body:σ->Option (Sum σ R)}
theorem Yg {n:Nat}{s:σ}{r:R}(h:iter body n s=some r): ∀{m:Nat},n<=m->iter body m s=some r:=by
 induction n generalizing s with
 |zero=>cases h
 |succ n ih=>
  intro m hm;obtain ⟨m,rfl⟩: ∃k,m=k+1:=⟨m-1,aah⟩
  grind [iter]
theorem Ck {k n:Nat}{s:σ}{r:R}(h:iter body n s=some r):sG k body s=some r:=by
 have he: ∃r n,iter body n s=some r:=⟨r,n,h⟩
 have one: ∀{m:Nat} {r':R},iter body m s=some r'->r'=r:=(by grind [Yg,Nat.le_max_left,Nat.le_max_right,alv])
 unfold sG;grind
theorem mr {n:Nat}{s:σ}{r:R}(h:iter body n s=some r):Loop body s=some r:=Ck h
def acd (I:σ->Prop) (μ:σ->Nat)(Q:R->Prop)(h: ∀s,I s->(∃s',body s=some (.inl s')/\I s'/\μ s'<μ s)\/(∃r,body s=some (.inr r)/\Q r)){s:σ}(hs:I s): ∃r,Loop body s=some r/\Q r:=by
 have key: ∀k s,I s->μ s<k-> ∃r,iter body k s=some r/\Q r:=by
  intro k;induction k with
  |zero=>grind
  |succ k ih=>grind [iter]
 have ⟨r,e,hq⟩:=key (μ s+1) s hs aah;grind [mr]
def ace (S:Nat->σ)(N:Nat)(Q:R->Prop)(P:Nat->Prop)(h0:P 0)(h: ∀k,k<N->P k->(body (S k)=some (.inl (S (k+1)))/\P (k+1))\/(∃r,body (S k)=some (.inr r)/\Q r))(he:P N-> ∃r,body (S N)=some (.inr r)/\Q r): ∃r,Loop body (S 0)=some r/\Q r:=by
 have key: ∀d k,k+d=N->P k-> ∃r,iter body (d+1) (S k)=some r/\Q r:=by
  intro d;induction d with
  |zero=>grind [iter]
  |succ d ih=>grind [iter]
 have ⟨r,e,hq⟩:=key N 0 aah h0;grind [mr]
end
def fU {R:Type}(l:List MV)(K:Nat->Option R):Option R:=K l.length
def ix {α R:Type}(l:List α)(i:Int)(K:α->Option R):Option R:=match (if 0<=i then l[i.toNat]? else none) with|some x=>K x|none=>none
def zj (l:List UInt8):List Int:=l.map λb=>(b.toNat:Int)
@[simp] theorem vf (l : List UInt8) : IV l = (zj l).map (MV.i .u8) := by unfold IV zj; rw [alH]; rfl
def j8 {α:Type}(bytes:Nat)(l:List α):Option (List α):=if l.length *bytes<=2^46 then some l else none
def Bi {α:Type}(xs:List α)(i j:Int):Option (List α):=if 0<=i/\i<=j/\j<=(xs.length:Int) then some (xs.take i.toNat++xs.drop j.toNat) else none
def rZ {α:Type}(bytes:Nat)(xs:List α)(i:Int)(ys:List α):Option (List α):=if 0<=i/\i.toNat<=xs.length/\ys≠[]/\(xs.length+ys.length) *bytes<=2^46 then some (xs.take i.toNat++ys++xs.drop i.toNat) else none
@[reducible] def FD {α : Type}(f : α -> MV)(l : List α) : MV := .list (l.map f)
@[reducible] def HI {α : Type}(f : α -> MV)(l : List α) : MV := .fresh (l.map f)
def Sm {A B:Type}(g:B->A)(x:Option A)(y:Option B):Prop:=x=y.map g
section
variable {A B A' B' α:Type}{g:B->A}{T:Option B}
theorem Sm.at {x x':Option A}(e:x=x')(h:Sm g x' T):Sm g x T:=e▸h
theorem eP {l:List MV}{K:List MV->Option A}(h:Sm g (K l) T):Sm g (gA (.agg l) K) T:=h
theorem gE {x:Bool}{K:Bool->Option A}(h:Sm g (K x) T):Sm g (gB (.b x) K) T:=h
theorem kY {x:List UInt8}{K:List UInt8->Option A}(h:Sm g (K x) T):Sm g (gS (.s x) K) T:=h
theorem dm {x:List MV}{K:List MV->Option A}(h:Sm g (K x) T):Sm g (gL (.list x) K) T:=h
theorem anW {x:MV}{outs:List MV}{K:MV->List MV->Option A}(h:Sm g (K x outs) T):Sm g (gW (.im x outs) K) T:=h
theorem yS {x:List MV}{K:List MV->Option A}(h:Sm g (K x) T):Sm g (gT (.cT x) K) T:=h
theorem J6 {x:List MV}{K:List MV->Option A}(h:Sm g (K x) T):Sm g (gF (.fresh x) K) T:=h
theorem vV {f:Nat}{x:List MV}{K:Nat->List MV->Option A}(h:Sm g (K f x) T):Sm g (SR (.func f x) K) T:=h
theorem CU {f:Nat}{x:List MV}{K:MV->Option A}(h:Sm g (K (.func f x)) T):Sm g (gR (.func f x) K) T:=h
theorem bH {k:IntKind}{n:Int}{K:Int->Option A}(h:Sm g (K n) T):Sm g (gI k (.i k n) K) T:=by simpa using h
theorem aO {m:MV}{r:List MV}{K:MV->List MV->Option A}(h:Sm g (K m r) T):Sm g (gC (m::r) K) T:=h
theorem cw {K:Option A}(h:Sm g K T):Sm g (gN [] K) T:=h
theorem aE {x:Option A'}{y:Option B'}{f:B'->A'}{K:A'->Option A} {K':B'->Option B}(h:Sm f x y)(hk: ∀b,Sm g (K (f b)) (K' b)):Sm g (bd x K) (bd y K'):=by
 subst h;cases y with
 |none=>rfl
 |some b=>exact hk b
theorem cE {p:Prop}[Decidable p]{X Y:Option A} {X' Y':Option B}(h1:Sm g X X')(h2:Sm g Y Y'):Sm g (gk (decide p) X Y) (if p then X' else Y'):=by by_cases h:p<;>simpa [h] using (by assumption)
theorem dK {c:Bool}{X Y:Option A} {X' Y':Option B}(h1:Sm g X X')(h2:Sm g Y Y'):Sm g (gk c X Y) (if c then X' else Y'):=by cases c<;>simpa using (by assumption)
theorem fV {p:Prop}[Decidable p]{X:Option A} {X':Option B}(h1:Sm g X X'):Sm g (fh (decide p) X) (if p then X' else none):=by grind [fh,Sm]
theorem Wt {c:Bool}{X:Option A} {X':Option B}(h1:Sm g X X'):Sm g (fh c X) (if c then X' else none):=by grind [fh,Sm]
theorem ej {c:Bool}{X:Option A}(hc:c=true)(h:Sm g X T):Sm g (fh c X) T:=by simp_all
theorem FE {c:Bool}{X Y:Option A}(hc:c=true)(h:Sm g X T):Sm g (gk c X Y) T:=by simp_all
theorem FF {c:Bool}{X Y:Option A}(hc:c=false)(h:Sm g Y T):Sm g (gk c X Y) T:=by simp_all
theorem bS {l:List MV}{n:Nat}{K:Nat->Option A}(e:l.length=n)(h:Sm g (K n) T):Sm g (fU l K) T:=by subst e;exact h
theorem eF {l:List MV}{M:List α}{f:α->MV}{i:Int}{K:MV->Option A} {K':α->Option B}(e:l=M.map f)(h: ∀y,Sm g (K (f y)) (K' y)):Sm g (idx l i K) (ix M i K'):=by
 subst e;unfold idx aiC ix;by_cases hi:0<=i
 .simp_all;cases M[i.toNat]? with
  |none=>rfl
  |some y=>exact h y
 .simp only [hi,if_false];rfl
theorem Er {R:Type}[B7 R]{a b x:Option R}(h1:a=x)(h2:b=x):both a b=x:=by subst h1;subst h2;rw [Vz,if_pos rfl]
theorem Ps {X Y:Option A}{T:Option B}(e:Y=X)(h:Sm g X T):Sm g Y T:=by grind
def HJ {R:Type}(l:List Int)(K:List UInt8->Option R):Option R:=if l.all isByte then K (l.map λn=>UInt8.ofNat n.toNat) else none
theorem acf {R:Type}{M:List Int}: ∀{K:List UInt8->Option R},L8 (M.map (MV.i .u8)) K=HJ M K:=by
 induction M with
 |nil=>intro K;rfl
 |cons n M ih=>simp only [ain,L8,byK,gI,decide_true,cond_true,ih];grind [isByte,fh,HJ]
theorem Uh {l:List MV}{M:List Int}{K:List UInt8->Option A} {K':List UInt8->Option B}(e:l=M.map (MV.i .u8))(h: ∀b,Sm g (K b) (K' b)):Sm g (L8 l K) (HJ M K'):=by
 subst e;rw [acf];unfold HJ;split
 .exact h _
 .rfl
theorem ao {d:A}{a:B}(e:d=g a):Sm g (some d) (some a):=by subst e;rfl
theorem afH:Sm g none none:=rfl
theorem afI {p k:Nat}{K:Nat->Option A}{X:Option B}(h:k=p->Sm g (K p) X):Sm g (L2 [p] k K) (if k=p then X else none):=by
 by_cases hk:k=p
 .unfold L2;simp_all
 .rw [if_neg hk];unfold L2;rw [show ad9 k p=false from by simp_all];rfl
theorem qt {p q k:Nat}{r:List Nat}{K:Nat->Option A}{X Y:Option B}(h:k=p->Sm g (K p) X)(h2:Sm g (L2 (q::r) k K) Y):Sm g (L2 (p::q::r) k K) (if k=p then X else Y):=by
 by_cases hk:k=p
 .unfold L2;simp_all
 simp_all [if_neg,L2,ad9]
theorem xL {n:Nat}{l:List MV}{M:List α}{f:α->MV}(e:l=M.map f)(h: ∀x,(f x).w=n):rU n l=true:=by simp_all [rU,List.all_map,OF]
theorem RM {σ σ' ρ ρ':Type}{e:σ'->σ}{f:ρ'->ρ}{K:σ->Option (Sum σ ρ)} {K':σ'->Option (Sum σ' ρ')}(h: ∀s,Sm (Sum.map e f) (K (e s)) (K' s))(n:Nat)(s:σ'):iter K n (e s)=(iter K' n s).map f:=by
 induction n generalizing s with
 |zero=>rfl
 |succ n ih=>grind [Sm,iter]
theorem J7 {σ ρ:Type}{K:σ->Option (Sum σ ρ)}{k:Nat}{s:σ}(h: ∀n,iter K n s=none):sG k K s=none:=by simp_all [sG,dif_neg]
theorem Yh {σ ρ:Type}{K:σ->Option (Sum σ ρ)}{s:σ}(h: ∀n,iter K n s=none):Loop K s=none:=J7 h
theorem iC {σ σ' ρ ρ':Type}{k:Nat}{K:σ->Option (Sum σ ρ)} {K':σ'->Option (Sum σ' ρ')}{d0:σ}{s0:σ'}(e:σ'->σ)(f:ρ'->ρ)(e0:d0=e s0)(h: ∀s,Sm (Sum.map e f) (K (e s)) (K' s)):Sm f (sG k K d0) (Loop K' s0):=by
 subst e0;unfold Sm;by_cases hx: ∃r n,iter K' n s0=some r
 .have ⟨r,n,hn⟩:=hx;rw [mr hn];have:iter K n (e s0)=some (f r):=by rw [RM h,hn];rfl
  grind [Ck]
 .have h1: ∀n,iter K' n s0=none:=λn=>by
   cases hn:iter K' n s0 with
   |none=>rfl
   |some r=>grind
  rw [Yh h1,J7 λn=>by rw [RM h,h1];rfl];rfl
theorem r8 {size bytes:Nat}{f:α->MV}(hw: ∀x,(f x).w=size)(l:List α):Sm (HI f) (fT size bytes [.list (l.map f)]) (j8 bytes l):=by unfold Sm fT j8;simp only [xL (rfl:l.map f=l.map f) hw,aiT,alx];simp_all
theorem RN {f:α->MV}(xs:List α)(i j:Int):Sm (HI f) (rY [.fresh (xs.map f),.i .i64 i,.i .i64 j]) (Bi xs i j):=by unfold Sm rY Bi;by_cases h1:0<=i<;>by_cases h2:i<=j<;>by_cases h3:j<=(xs.length:Int)<;>simp [h1,h2,h3,HI]
theorem J8 {bytes:Nat}{f:α->MV}(xs:List α)(i:Int)(ys:List α):Sm (HI f) (jm bytes [.fresh (xs.map f),.i .i64 i,.fresh (ys.map f)]) (rZ bytes xs i ys):=by
 unfold Sm jm rZ;simp only [alx];have hb: ∀a b:Nat,ad6 a b=decide (a<=b):=λa b=>by by_cases h:a<=b;all_goals simp_all [ajo,decide_eq_true,decide_eq_false,aic,IT]
 rw [hb,hb];have he:(ys.map f).isEmpty=decide (ys=[]):=by cases ys<;>simp
 rw [he];by_cases h1:0<=i<;>by_cases h2:i.toNat<=xs.length<;>by_cases h3:ys=[]<;>by_cases h4:(xs.length+ys.length) *bytes<=2^46<;>simp [h1,h2,h3,h4,HI]
end
abbrev akb (f:Option MV):List MV->Option MV|[]=>f|_=>none
abbrev Pt (f:MV->Option MV):List MV->Option MV|[a]=>f a|_=>none
abbrev Ui (f:MV->MV->Option MV):List MV->Option MV|[a,b]=>f a b|_=>none
abbrev RO (f:MV->MV->MV->Option MV):List MV->Option MV|[a,b,c]=>f a b c|_=>none
abbrev anX (f:MV->MV->MV->MV->Option MV):List MV->Option MV|[a,b,c,d]=>f a b c d|_=>none
theorem Wu {f:Option MV}{B:List MV->Option MV}(h:B []=f){ms:List MV}{r:MV}(e:akb f ms=some r):B ms=some r:=by grind
theorem vg {f:MV->Option MV}{B:List MV->Option MV}(h: ∀a,B [a]=f a){ms:List MV}{r:MV}(e:Pt f ms=some r):B ms=some r:=by grind
theorem Bj {f:MV->MV->Option MV}{B:List MV->Option MV}(h: ∀a b,B [a,b]=f a b){ms:List MV}{r:MV}(e:Ui f ms=some r):B ms=some r:=by grind
theorem xM {f:MV->MV->MV->Option MV}{B:List MV->Option MV}(h: ∀a b c,B [a,b,c]=f a b c){ms:List MV}{r:MV}(e:RO f ms=some r):B ms=some r:=by grind
theorem afJ {f:MV->MV->MV->MV->Option MV}{B:List MV->Option MV}(h: ∀a b c d,B [a,b,c,d]=f a b c d){ms:List MV}{r:MV}(e:anX f ms=some r):B ms=some r:=by grind
theorem db.fn {P:Program} {c c':Ctx}{g:Nat->List MV->Option MV}{n:Nat}{fn:Func}{aJ:List (List Kd)}{F:List MV->Option MV}(h:db P c g)(hl:Eh c c')(hgg:c'.g=g)(lC:fw P c.ti)(ol:QK P c.ti)(Qj: ∀t k,c.fk t=some k->P.underlying t=some (.float k))(XK:z1 P c)(Pc:P.follows .mixedOrders=true)(Mq:sY P c)(hf:P.funcs[n]? =some fn)(hh:ou c' n fn aJ=true)(Fs: ∀f,c.key f=f){fresh:Option Nat}(zT:Ac c' n fn fresh=true)(hF: ∀{ms r},F ms=some r->qB c' aJ fresh fn ms=some r):db P c (aK n F g):=by have hb:=db.body h hl hgg lC ol Qj XK Pc Mq hf hh Fs zT;refine h.add (λf ms r hk hr=> ?_);refine hb.all f ms r ?_;simp_all [aK]
def acg {α:Type}(p:α->Option Bool):List α->Option (List α)
 |[]=>some []
 |x::xs=>bd (p x) λb=>bd (acg p xs) λys=>some (if b then ys else x::ys)
def Et {α σ:Type}(p:α->σ->Option (Bool×σ)):σ->List α->Option (List α×σ)
 |s,[]=>some ([],s)
 |s,x::xs=>bd (p x s) λq=>bd (Et p q.2 xs) λr=>some (if q.1 then r.1 else x::r.1,r.2)
theorem ach {l:List MV} {α:Type}{M:List α}{f:α->MV}(e:l=M.map f)(h: ∀x,Xm (f x)=true):l.all Xm=true:=by grind
theorem aci {α σ:Type}{f:α->MV}{lv:σ->List MV}{g:Nat->List MV->Option MV}{k:Nat}{aJ:List MV}{p:α->σ->Option (Bool×σ)}(h: ∀x s,Sm (λr=>MV.im (.b r.1) (lv r.2)) (g k (f x::(aJ++[.cell (.func 0 (lv s))]))) (p x s)): ∀(s:σ) (L:List α),Sm (λr=>(r.1.map f,lv r.2)) (pG (QA g k aJ) (lv s) (L.map f)) (Et p s L)
 |s,[]=>rfl
 |s,x::xs=>by
  have hx:=h x s;unfold Sm at hx⊢;simp only [ain,pG,QA,Et,hx];cases p x s with
  |none=>rfl
  |some q=>
   have ih:=aci h q.2 xs;unfold Sm at ih;simp_all;show _=Option.map _ (bd (Et p q.2 xs) λr=>_);cases Et p q.2 xs with
   |none=>rfl
   |some r=>have ⟨b,s'⟩:=q;cases b<;>rfl
section
variable {α R:Type}
theorem bq {l:List α}{k:Nat}(h:k<l.length)(K:α->Option R):ix l (k:Int) K=K l[k]:=by simp [ix,h]
def CV {l:List α}{i:Int}(h0:0<=i)(h:i.toNat<l.length)(K:α->Option R):ix l i K=K l[i.toNat]:=by grind [ix]
def Wv {l:List α}(h:0<l.length)(K:α->Option R):ix l 0 K=K l[0]:=by simp [ix,h]
@[simp] def NR {A : Type}(x : Option A) : bd x (λa => some a) = x := by cases x <;> rfl
end
def bg {A:Type}(x:Option A)(Q:A->Prop):Prop:= ∃a,x=some a/\Q a
section
variable {A B α σ ρ:Type}
def bg.mk {a:A}{Q:A->Prop}(h:Q a):bg (some a) Q:=⟨a,rfl,h⟩
def bg.of {x:Option A}{a:A}{Q:A->Prop}(e:x=some a)(h:Q a):bg x Q:=⟨a,e,h⟩
theorem bg.bd {x:Option A}{K:A->Option B}{P:A->Prop}{Q:B->Prop}(h:bg x P)(hk: ∀a,P a->bg (K a) Q):bg (bd x K) Q:=by obtain ⟨a,rfl,hp⟩:=h;exact hk a hp
def bg.imp {x:Option A}{P Q:A->Prop}(h:bg x P)(hpq: ∀a,P a->Q a):bg x Q:=by have ⟨a,e,hp⟩:=h;exact ⟨a,e,hpq a hp⟩
theorem bg.ix {l:List α}{k:Nat}{K:α->Option A}{Q:A->Prop}(h:k<l.length)(hk:bg (K l[k]) Q):bg (ix l (k:Int) K) Q:=by grind [bq]
def bg.eq {x:Option A}{a:A}(h:bg x (· =a)):x=some a:=by obtain ⟨b,e,rfl⟩:=h;exact e
variable {body:σ->Option (Sum σ ρ)}
def bg.loop (I:σ->Prop) (μ:σ->Nat){Q:ρ->Prop}{s:σ}(hs:I s)(h: ∀s,I s->bg (body s) λx=>match x with| .inl s'=>I s'/\μ s'<μ s| .inr r=>Q r):bg (Loop body s) Q:=by refine acd I μ Q (λs hs=> ?_) hs;have ⟨x,e,hx⟩:=h s hs;grind
def bg.count (S:Nat->σ)(n:Nat){Q:ρ->Prop}(P:Nat->Prop){s:σ}(e:s=S 0)(h0:P 0)(h: ∀k,k<n->P k->bg (body (S k)) λx=>match x with| .inl s'=>s'=S (k+1)/\P (k+1)| .inr r=>Q r)(he:P n->bg (body (S n)) λx=>match x with| .inl _=>False| .inr r=>Q r):bg (Loop body s) Q:=by
 subst e;refine ace S n Q P h0 (λk hk hp=> ?_) (λhp=> ?_)
 .have ⟨x,e,hx⟩:=h k hk hp;grind
 .have ⟨x,e,hx⟩:=he hp;grind
end
theorem wrap64 {x:Int}(h1: -9223372036854775808<=x)(h2:x<=9223372036854775807):aa0 .i64 x=x:=afG h1 h2
def anY {σ R:Type}(n:Nat)(body:σ->Option (Sum σ R))(s:σ):Option R:=iter body n s
def Le {A:Type}(x y:Option A):Prop:= ∀a,x=some a->y=some a
section
variable {A B σ ρ α:Type}
theorem Le.rfl' (x:Option A):Le x x:=λ_ h=>h
theorem Le.bd {x x':Option A} {K K':A->Option B}(h:Le x x')(hk: ∀a,Le (K a) (K' a)):Le (bd x K) (bd x' K'):=by
 intro b hb;cases hx:x with
 |none=>rw [hx] at hb;cases hb
 |some a=>rw [hx] at hb;rw [h a hx];exact hk a b hb
theorem Le.ix {l:List α}{i:Int} {K K':α->Option A}(h: ∀a,Le (K a) (K' a)):Le (ix l i K) (ix l i K'):=by grind [Dn.ix,Le.rfl']
theorem Le.iter {K K':σ->Option (Sum σ ρ)}(h: ∀s,Le (K s) (K' s))(n:Nat)(s:σ):Le (iter K n s) (iter K' n s):=by
 induction n generalizing s with
 |zero=>exact Le.rfl' _
 |succ n ih=>
  intro r hr;simp only [Dn.iter] at hr⊢;cases hk:K s with
  |none=>grind
  |some x=>
   rw [hk] at hr;rw [h s x hk];cases x with
   |inl s'=>exact ih s' r hr
   |inr r'=>exact hr
def Le.loop {n:Nat} {K K':σ->Option (Sum σ ρ)}{s:σ}(h: ∀s,Le (K s) (K' s)):Le (anY n K s) (Loop K' s):=λr hr=>mr (Le.iter h n s r hr)
def Le.sum {P Q:Type}{x:P⊕Q} {f f':P->Option A} {g g':Q->Option A}(h1: ∀p,Le (f p) (f' p))(h2: ∀q,Le (g q) (g' q)):Le (match x with| .inl p=>f p| .inr q=>g q) (match x with| .inl p=>f' p| .inr q=>g' q):=by grind
end
def Le.Pu {α:Type}{p q:α->Option Bool}(h: ∀x,Le (p x) (q x)): ∀L:List α,Le (acg p L) (acg q L)
 |[]=>Le.rfl' _
 |x::xs=>Le.bd (h x) λb=>Le.bd (Le.Pu h xs) λ_=>Le.rfl' _
def Pv (x y:Int):Int:=if x<y then-1 else if y<x then 1 else 0
def s8 {α:Type}(key:α->Int)(L:List α)(s:Int):Nat:=L.countP (λe=>decide (key e<s))
def kL {α:Type}(key:α->Int)(L:List α)(s:Int):Bool:=L.any λe=>decide (key e=s)
def pM {α:Type}(key:α->Int)(L:List α):Prop:=L.Pairwise λa b=>key a<key b
section
variable {α τ:Type}{key:α->Int}{ρ:Type}
theorem akc {L:List α}{s:Int}{p:Nat}(hp:p<=L.length)(h1: ∀k (hk:k<L.length),k<p->key L[k]<s)(h2: ∀k (hk:k<L.length),p<=k->s<=key L[k]):s8 key L s=p:=by
 have h3:(L.take p).countP (λe=>decide (key e<s))=(L.take p).length:=by
  rw [List.countP_eq_length];intro a ha;obtain ⟨k,hk,rfl⟩:=ahG.1 ha;have TF:k<p:=by rw [IN] at hk;omega
  rw [List.getElem_take];exact (by grind)
 have h4:(L.drop p).countP (λe=>decide (key e<s))=0:=by rw [List.countP_eq_zero];intro a ha;obtain ⟨k,hk,rfl⟩:=ahG.1 ha;rw [ad8] at hk;rw [List.getElem_drop];have:=h2 (p+k) aah aah;simp;omega
 grind [s8,decide,ajt,IN]
def pM.lt {L:List α}(hs:pM key L){i j:Nat}(hj:j<L.length)(h:i<j):key (L[i]' aah)<key L[j]:=List.pairwise_iff_getElem.1 hs i j aah hj h
def pM.le {L:List α}(hs:pM key L){i j:Nat}(hj:j<L.length)(h:i<=j):key (L[i]' aah)<=key L[j]:=by
 rcases Nat.lt_or_eq_of_le h with h|h
 .exact Int.le_of_lt (hs.lt hj h)
 grind
theorem acj (L:List α)(s:Int):s8 key L s<=L.length:=List.countP_le_length
def pM.lb {L:List α}(hs:pM key L)(s:Int):(∀k (hk:k<L.length),k<s8 key L s->key L[k]<s)/\(∀k (hk:k<L.length),s8 key L s<=k->s<=key L[k]):=by
 have: ∃p,p<=L.length/\(∀k (hk:k<L.length),k<p->key L[k]<s)/\(∀k (hk:k<L.length),p<=k->s<=key L[k]):=by
  induction L with
  |nil=>simp_all
  |cons a l ih=>
   have zf:=List.pairwise_cons.1 hs;by_cases ha:key a<s
   .have ⟨p,h1,h2,h3⟩:=ih zf.2;refine ⟨p+1,by simp;omega,λk hk hkp=> ?_,λk hk hkp=> ?_⟩;all_goals grind
   .refine ⟨0,aef _,λk hk hkp=>aah,λk hk _=> ?_⟩;grind
 grind [akc]
def pM.has {L:List α}(hs:pM key L)(s:Int):kL key L s=true↔ ∃h:s8 key L s<L.length,key L[s8 key L s]=s:=by
 have ⟨h1,h2⟩:=hs.lb s;unfold kL;rw [afh];constructor
 .rintro ⟨x,hx,he⟩;obtain ⟨k,hk,rfl⟩:=ahG.1 hx;have he:key L[k]=s:=by simpa using he
  have hge:s8 key L s<=k:=by refine Nat.le_of_not_lt λdh=> ?_;have:=h1 k hk dh;omega
  have hl:s8 key L s<L.length:=aah
  refine ⟨hl,?_⟩;have:=h2 _ hl (ad1 _);have:=hs.le hk hge;omega
 grind
def Eu {L:List α}{s:Int}:kL key L s=true↔ ∃x∈L,key x=s:=by simp [kL]
noncomputable def bsL (x:List α)(target:τ)(cmp:α->τ->Option Int)(st:Int×Int):Option ((Int×Int)⊕Int):=if st.1<st.2 then
 if (0:Int)<=1 then
 ix x (aa0 .i64 (alC (aa0 .u64 (aa0 .i64 (st.1+st.2))) (2^min (akd 1) (ahl .u64)))) λy=>
 bd (cmp y target) λrA=>
 bd (if rA<0 then
  some (aa0 .i64 ((aa0 .i64 (alC (aa0 .u64 (aa0 .i64 (st.1+st.2))) (2^min (akd 1) (ahl .u64))))+1),st.2)
  else
  some (st.1,aa0 .i64 (alC (aa0 .u64 (aa0 .i64 (st.1+st.2))) (2^min (akd 1) (ahl .u64)))):Option (Int×Int)) λw1=>
 some (.inl (w1.1,w1.2))
 else none
 else
 some (.inr st.1)
noncomputable def bsearch (x:List α)(target:τ)(cmp:α->τ->Option Int):Option (Int×Bool):=bd (Loop (bsL x target cmp) (0,(x.length:Int))) λw=>
 bd (if w<(x.length:Int) then
  ix x w λy1=>
  bd (cmp y1 target) λaZ=>
  some (w,decide (aZ=0))
  else
  some (w,false):Option (Int×Bool)) λw2=>
 some (w2.1,w2.2)
theorem J9 {L:List α}{s:Int}{cmp:α->Int->Option Int}(hs:pM key L)(hl:L.length<2^60)(hc: ∀a,cmp a s=some (Pv (key a) s)):bsearch L s cmp=some ((s8 key L s:Int),kL key L s):=by
 have ⟨ru,Cf⟩:=hs.lb s;have hle:=acj (key:=key) L s;have jx:Loop (bsL L s cmp) (0,(L.length:Int))=some (s8 key L s:Int):=by
  refine bg.eq (bg.loop (λst=> ∃i j:Nat,st=((i:Int),(j:Int))/\i<=s8 key L s/\s8 key L s<=j/\j<=L.length) (λst=>(st.2-st.1).toNat) ⟨0,L.length,rfl,aef _,hle,ad1 _⟩ ?_);rintro st ⟨i,j,rfl,hi,hj,Mf⟩;unfold bsL;by_cases dh:i<j
  .have hm:(i+j)/2<L.length:=aah
   simp only [show ((i:Int)<(j:Int)) by omega,if_true,show ((0:Int)<=1) by decide,acb (by omega:i+j<2^62),bq hm,hc,av];by_cases hlb:(i+j)/2<s8 key L s
   .have hk:=ru _ hm hlb;have:Pv (key L[(i+j)/2]) s= -1:=by simp [Pv,hk]
    simp_all;rw [wrap64 aah aah];exact .mk ⟨⟨(i+j)/2+1,j,aaS,aah,hj,Mf⟩,aah⟩
   .have hk:=Cf _ hm aah;have: ¬Pv (key L[(i+j)/2]) s<0:=by unfold Pv;rw [if_neg aah];split<;>omega
    simp only [this,if_false,av];exact .mk ⟨⟨i,(i+j)/2,rfl,hi,aah,aah⟩,aah⟩
  .simp only [show¬((i:Int)<(j:Int)) by omega,if_false];exact .mk (by grind)
 unfold bsearch;rw [jx];by_cases dh:s8 key L s<L.length
 .simp only [show ((s8 key L s:Int)<(L.length:Int)) by omega,if_true,bq dh,hc,av];have h3:=Cf _ dh (ad1 _);have:decide (Pv (key L[s8 key L s]) s=0)=kL key L s:=by
   unfold Pv;rw [if_neg aah];by_cases he:key L[s8 key L s]=s
   .rw [if_neg aah,decide_eq_true rfl,(hs.has s).2 ⟨dh,he⟩]
   .rw [if_pos aah,decide_eq_false aaD];symm;rw [aic];intro hh;have ⟨_,hh⟩:=(hs.has s).1 hh;exact he hh
  rw [this]
 .simp only [show¬((s8 key L s:Int)<(L.length:Int)) by omega,if_false,av];have:kL key L s=false:=by rw [aic];intro hh;obtain ⟨hh,_⟩:=(hs.has s).1 hh;exact dh hh
  rw [this]
def Ka (key:α->Int)(L:List α)(a:α):List α:=L.take (s8 key L (key a))++[a]++L.drop (s8 key L (key a))
def Kb {L:List α}{a:α} {by':Nat}(hb:(L.length+1) *by'<=2^46):rZ by' L (s8 key L (key a):Int) [a]=some (Ka key L a):=by
 unfold rZ;rw [if_pos]
 .rfl
 grind [acj]
def Bk {L:List α} {by':Nat}(h:L.length *by'<=2^46):j8 by' L=some L:=if_pos h
theorem take_succ {L:List α}{k:Nat}(hk:k<L.length):L.take (k+1)=L.take k++[L[k]]:=(by simp_all)
def qM {body:Int->Option (Int⊕(Unit⊕ρ))}(n:Nat)(p:Nat->Prop)(c:ρ)(h: ∀k,k<n->(∀j,j<k->p j)->(p k->body (k:Int)=some (.inl ((k+1:Nat):Int)))/\(¬p k->body (k:Int)=some (.inr (.inr c))))(he:body (n:Int)=some (.inr (.inl ()))):bg (Loop body 0) λr=>(r= .inl ()/\ ∀k,k<n->p k)\/(r= .inr c/\ ∃k,k<n/\ ¬p k):=by
 refine bg.count (λk=>(k:Int)) n (λk=> ∀j,j<k->p j) rfl (λj hj=>aah) (λk hk hp=> ?_) (λhp=> ?_)
 .by_cases hpk:p k
  .refine .of ((h k hk hp).1 hpk) ⟨rfl,λj hj=> ?_⟩;grind
  .exact .of ((h k hk hp).2 hpk) (by grind)
 .exact .of he (.inl ⟨rfl,hp⟩)
def FG [DecidableEq α]{a b:List α}{body:Int->Option (Int⊕(Unit⊕Bool))}(hl:a.length=b.length)(h: ∀k (ha:k<a.length)(hb:k<b.length),body (k:Int)=some (if a[k]=b[k] then .inl ((k+1:Nat):Int) else .inr (.inr false)))(he:body (a.length:Int)=some (.inr (.inl ()))):Loop body 0=some (if a=b then .inl () else .inr false):=by
 have ⟨r,e,hr⟩:=qM (body:=body) a.length (λk=>a[k]? =b[k]?) false (by grind) he;rw [e];rcases hr with ⟨rfl,rV⟩|⟨rfl,k,hk,dt⟩
 .rw [if_pos];refine aga λk=> ?_;grind
 grind
end
def Pw {lay:List Kd}: ∀{ks:List MV},cL lay ks=true->jX (cks lay) (ks.flatMap GQ):=by
 induction lay with
 |nil=>intro ks h;cases ks with|nil=>rfl|cons=>grind [cL]
 |cons k lay ih=>
  intro ks h;cases ks with
  |nil=>grind [cL]
  |cons m ks=>
   simp only [cL,bo] at h;have h2:=ih h.2;have h1:=h.1;cases k<;>cases m<;>simp only [DR] at h1<;>try (cases h1;done)
   .exact ⟨_,_,rfl,rfl,h2⟩
   .exact ⟨_,_,rfl,h1,h2⟩
   .exact ⟨_,_,rfl,rfl,h2⟩
   .rename_i k n k' n' x;simp only [bo,decide_eq_true_eq] at h1;have ⟨rfl,_,h1⟩:=h1;have:=(JJ k' x).append h2;rw [AT h1] at this;exact this
def afL {lay:List Kd}: ∀{a b:List MV},cL lay a=true->cL lay b=true->ln (a.flatMap GQ) (b.flatMap GQ)=jS b a:=by
 induction lay with
 |nil=>intro a b ha hb;cases a<;>cases b<;>simp [cL] at ha hb;rfl
 |cons k lay ih=>
  intro a b ha hb;cases a with
  |nil=>grind [cL]
  |cons x a=>
   cases b with
   |nil=>grind [cL]
   |cons y b=>
    simp only [cL,bo] at ha hb;have ih:=ih ha.2 hb.2;have h1:=ha.1;have h2:=hb.1;cases k<;>cases x<;>simp only [DR] at h1<;>try (cases h1;done)
    all_goals cases y<;>simp only [DR] at h2<;>try (cases h2;done)
    .simp only [ahn,GQ,ahq,afu,ln,ceq,jS,L4,ih];grind
    .simp only [ahn,GQ,ahq,afu,ln,ceq,jS,L4,ih,decide_true,aiT];grind
    .simp only [ahn,GQ,ahq,afu,ln,ceq,jS,L4,ih];grind
    .simp only [bo,decide_eq_true_eq] at h1 h2;have ⟨rfl,e1,e2⟩:=h1;have ⟨rfl,e3,e4⟩:=h2;have e1:=AT e1;have e2:=AT e2;have e4:=AT e4;simp only [ahn,GQ,jS,L4,decide_true,Nat.beq_refl,aiT];rw [u9 (by grind [cA]),ND _ _ _ aah,ih];grind
def FH:TypeDesc->Bool
 | .bool| .int _| .string=>true
 |_=>false
def an0 (P:Program)(n:Nat)(fs:List Field):Bool:=fs.all λf=>(match P.underlying f.type with|some d=>FH d|none=>false)&&ad6 (f.offset+1) n
def ah5 (P:Program)(kt:Nat)(I:TI):Bool:=match P.underlying kt with
 |some .bool=>!I.st&&nD I.lay .b
 |some (.int k)=>!I.st&&nD I.lay (.i k)
 |some .string=>!I.st&&nD I.lay .s
 |some (.struct fs)=>I.st&&(match nj P 20 kt with|some ks=>HC ks (cks I.lay)|none=>false)&&an0 P (cks I.lay).length fs.toList
 |_=>false
def ah6 (b:Bool):Option Value->Bool
 |some (.bool false)=>b
 |some (.int .i64 n)=>!b&&decide (n=0)
 |_=>false
def an1 (P:Program)(ti:Nat->Option TI)(t kt:Nat)(b:Bool):Bool:=match P.underlying t with
 |some (.map kt' el)=>ad9 kt' kt&&(match P.info? el with|some i=>ah6 b i.zero|none=>false)&&(match ti kt with|some I=>xD I.bR&&ah5 P kt I|none=>false)
 |_=>false
def Cl:List (Nat×(Nat×Bool))->Nat->Option (Nat×Bool)
 |[],_=>none
 |(k,s)::r,t=>bif ad9 k t then some s else Cl r t
def Yi {l:List (Nat×(Nat×Bool))}{t:Nat}{I:Nat×Bool}(h:Cl l t=some I):(t,I)∈l:=by
 induction l with
 |nil=>grind [Cl]
 |cons p l ih=>simp only [Cl,eQ] at h;grind
def afM (P:Program)(ti:Nat->Option TI)(l:List (Nat×(Nat×Bool))):Bool:=l.all λp=>an1 P ti p.1 p.2.1 p.2.2
def Bl {k:Kd}{ks:List MV}(h:cL [k] ks=true): ∃m,ks=[m]/\DR k m=true:=by
 cases ks with
 |nil=>grind [cL]
 |cons m r=>
  cases r with
  |cons=>grind [cL]
  |nil=>exact ⟨m,rfl,by grind [cL]⟩
def j9 {P:Program}{t:TypeId}{d:TypeDesc}(hu:P.underlying t=some d)(hd:FH d=true)(em:Bool)(n:Nat)(v:Value)(w:World):(ajZ em (n+1) t v).run P w= .ok () w:=by rw [ajZ];simp only [alI,run_underlying hu,Result.andThen];cases d<;>simp [FH] at hd<;>cases v<;>rfl
def Kc {P:Program}{t:TypeId}{d:TypeDesc}(hu:P.underlying t=some d)(hd:FH d=true){xs:Array Value}{off:Nat}(h:off<xs.size)(w:World):(Go.part t xs off).run P w= .ok xs[off] w:=by cases d<;>simp [FH] at hd<;>simp [Go.part,isAgg,run_underlying hu,h]
theorem Ke {P:Program}{c:Ctx}{l:List (Nat×(Nat×Bool))}(h:afM P c.ti l=true)(hm: ∀t p,c.mt t=some p->Cl l t=some p):z1 P c:=by
 intro t s hs;unfold wj at hs;cases XK:c.mt t with
 |none=>grind
 |some p=>
  have ⟨kt,b⟩:=p;simp only [XK] at hs;cases hI:c.tv kt with
  |none=>grind
  |some I=>
   simp only [hI] at hs;cases hit:L0 ⟨I.st,I.lay,b⟩ with
   |true=>grind
   |false=>
   simp only [hit,cond_false,ad0] at hs;subst hs;have ⟨OI,Qk⟩:=aM hI;have hb:=OF.1 h _ (Yi (hm t _ XK));simp only [an1] at hb;split at hb
   .rename_i kt' el hu;simp only [bo] at hb;have ⟨⟨ru,Cf⟩,hb3⟩:=hb;have ru:=AT ru;subst ru;split at Cf
    .rename_i inf asq;rw [OI] at hb3;simp at hb3;have hk:=hb3.2;have hz: ∀w:World,(zeroValue el).run P w= .ok (BL b (ji b)) w:=by
      intro w;have:inf.zero=some (BL b (ji b)):=by
       generalize inf.zero=z at Cf;unfold ah6 at Cf;split at Cf
       .subst Cf;rfl
       .simp only [bo,aea] at Cf;have ⟨h1,h2⟩:=Cf;subst h1;rw [of_decide_eq_true h2];rfl
       .cases Cf
      simp [zeroValue,typeInfo,asq,this]
     unfold ah5 at hk;refine ⟨kt',el,hu,hz,?_⟩;split at hk
     .rename_i hd;simp at hk;have hl:=e8 hk.2;refine ⟨λem ks w hf=>j9 hd rfl em 9999 _ w,_,hd,.inl λa b' ha Nf=> ?_⟩;rw [hl] at ha Nf;obtain ⟨x,rfl,hx⟩:=Bl ha;obtain ⟨y,rfl,hy⟩:=Bl Nf;cases x<;>simp [DR] at hx;cases y<;>simp [DR] at hy;simp only [hk.1,ft,akr,jS,L4,ak5];grind
     .rename_i k hd;simp at hk;have hl:=e8 hk.2;refine ⟨λem ks w hf=>j9 hd rfl em 9999 _ w,_,hd,.inl λa b' ha Nf=> ?_⟩;rw [hl] at ha Nf;obtain ⟨x,rfl,hx⟩:=Bl ha;obtain ⟨y,rfl,hy⟩:=Bl Nf;cases x<;>simp [DR] at hx;cases y<;>simp [DR] at hy;simp only [hk.1,ft,akr,jS,L4,ak5,if_true,decide_true,aiT];grind
     .rename_i hd;simp at hk;have hl:=e8 hk.2;refine ⟨λem ks w hf=>j9 hd rfl em 9999 _ w,_,hd,.inl λa b' ha Nf=> ?_⟩;rw [hl] at ha Nf;obtain ⟨x,rfl,hx⟩:=Bl ha;obtain ⟨y,rfl,hy⟩:=Bl Nf;cases x<;>simp [DR] at hx;cases y<;>simp [DR] at hy;simp only [hk.1,ft,akr,jS,L4,ak5];congr 1;rw [beq_toListBytes,akn,akn,Bool.eq_iff_iff];grind
     .rename_i fs hd;simp at hk;have ⟨⟨eh,hkk⟩,hfs⟩:=hk;split at hkk
      .rename_i ks hks;have hkk:=V0 hkk;subst hkk;have hkv: ∀q,ft true q= .agg (q.flatMap GQ).toArray:=by intro q;rfl
       refine ⟨λem q w hf=> ?_,_,hd,.inr λx y hx hy=>⟨?_,λw=> ?_⟩⟩
       .have hlen:(q.flatMap GQ).length=(cks I.lay).length:=(Pw hf).length;rw [eh,hkv,show (10000:Nat)=9999+1 from rfl,ajZ];simp only [alI,run_underlying hd,Result.andThen_ok];rw [<-Array.forIn_toList];have each: ∀f∈fs.toList,(∃d,P.underlying f.type=some d/\FH d=true)/\f.offset<(q.flatMap GQ).toArray.size:=by
         intro f hf;have:=OF.1 hfs f hf;simp only [bo] at this;obtain ⟨h1,h2⟩:=this;split at h1
         .rename_i d hd;exact ⟨⟨d,hd,h1⟩,by have:=IT h2;grind⟩
         .cases h1
        generalize fs.toList=L at each;generalize (q.flatMap GQ).toArray=xs at each;induction L with
        |nil=>simp
        |cons f L ih=>have ⟨⟨d,h1,h2⟩,h3⟩:=each f aaS;have ru:=j9 h1 h2 em 9998 xs[f.offset] w;have Cf:=Kc (P:=P) h1 h2 h3 w;simp_all
       .rfl
       .rw [eh,hkv,hkv];have:=Hc (P:=P) (w:=w) 20 kt' _ hks 9980 (.agg (x.flatMap GQ).toArray) (.agg (y.flatMap GQ).toArray) (x.flatMap GQ) (y.flatMap GQ) (by simp [uA,hd]) (by simp [uA,hd]) (Pw hx) (Pw hy);rw [afL hx hy] at this;exact this
      .cases hkk
     .cases hk
    .cases Cf
   .cases hb
section
variable {α:Type}{key:α->Int}
end
class Ec (α:Type) where
 c:α->MV
class En (α:Type) where
 e:α->List MV
instance:Ec (List UInt8):=⟨MV.s⟩
instance:Ec Int:=⟨MV.i .u8⟩
instance (priority:=high):En (List UInt8):=⟨λs=>[.s s]⟩
instance:En Bool:=⟨λb=>[.b b]⟩
instance:En Int:=⟨λn=>[.i .i64 n]⟩
instance:En Unit:=⟨λ_=>[]⟩
instance {α:Type} [Ec α]:En (List α):=⟨λl=>[.list (l.map Ec.c)]⟩
instance {α β:Type} [En α] [En β]:En (α×β):=⟨λp=>En.e p.1++En.e p.2⟩
theorem HK {p:Prop}(h:p:=by first|exact Iff.rfl|exact rfl|(simp only [List.length_map,List.length_append,List.length_cons,List.length_nil,List.map_append,List.map_cons,List.map_nil,List.map_take,List.map_drop,List.length_take,List.length_drop,List.length_replicate,List.map_replicate,List.map_set,List.length_set,vf];done)|(conv=>lhs;whnf);(simp only [List.length_map,List.length_append,List.length_cons,List.length_nil,List.map_append,List.map_cons,List.map_nil,List.map_take,List.map_drop,List.length_take,List.length_drop,List.length_replicate,List.map_replicate,List.map_set,List.length_set,vf];done)|(simp only [List.length_map,List.length_append,List.length_cons,List.length_nil,List.map_append,List.map_cons,List.map_nil,List.map_take,List.map_drop,List.length_take,List.length_drop,List.length_replicate,List.map_replicate,List.map_set,List.length_set,vf,En.e,Ec.c,List.cons_append,List.nil_append];first|done|rfl)|(conv=>lhs;whnf);(simp only [List.length_map,List.length_append,List.length_cons,List.length_nil,List.map_append,List.map_cons,List.map_nil,List.map_take,List.map_drop,List.length_take,List.length_drop,List.length_replicate,List.map_replicate,List.map_set,List.length_set,vf,En.e,Ec.c,List.cons_append,List.nil_append];first|done|rfl)|(simp;done)):p:=h
theorem ake {R:Type}[B7 R]{a b:Option R}(h:b=a):both a b=a:=Er rfl h
section
variable {A B A' B' α:Type}{g:B->A}{T:Option B}
theorem lI {x x':Option A'}{y:Option B'}{f:B'->A'}{K:A'->Option A} {K':B'->Option B}(h:Sm f x' y)(hk: ∀b,Sm g (K (f b)) (K' b))(e:x=x':=by exact HK):Sm g (bd x K) (bd y K'):=by grind [aE]
theorem vW {p p':Prop}[Decidable p][Decidable p']{X Y:Option A} {X' Y':Option B}(h1:Sm g X X')(h2:Sm g Y Y')(e:p↔p':=by exact HK):Sm g (gk (decide p) X Y) (if p' then X' else Y'):=by grind [cE]
theorem ov {c c':Bool}{X Y:Option A} {X' Y':Option B}(h1:Sm g X X')(h2:Sm g Y Y')(e:c=c':=by exact HK):Sm g (gk c X Y) (if c' then X' else Y'):=by grind [dK]
theorem Ww {p p':Prop}[Decidable p][Decidable p']{X:Option A} {X':Option B}(h1:Sm g X X')(e:p↔p':=by exact HK):Sm g (fh (decide p) X) (if p' then X' else none):=by rw [show decide p=decide p' from decide_eq_decide.2 e];exact fV h1
theorem akf {c c':Bool}{X:Option A} {X':Option B}(h1:Sm g X X')(e:c=c':=by exact HK):Sm g (fh c X) (if c' then X' else none):=by grind [Wt]
theorem akg {d:A}{a:B}(e:d=g a:=by exact HK):Sm g (some d) (some a):=ao e
theorem kZ {p:Prop}[Decidable p]{X:Option A} {X' Y':Option B}(h:Sm g X X')(hp:p:=by decide):Sm g X (if p then X' else Y'):=by grind
theorem lJ {σ σ' ρ ρ':Type}{k:Nat}{K:σ->Option (Sum σ ρ)} {K':σ'->Option (Sum σ' ρ')}{d0:σ}{s0:σ'}(e:σ'->σ)(f:ρ'->ρ)(h: ∀s,Sm (Sum.map e f) (K (e s)) (K' s))(e0:d0=e s0:=by exact HK):Sm f (sG k K d0) (Loop K' s0):=iC e f e0 h
theorem Ew {l:List MV}{M:List α}{f:α->MV} {i i':Int}{K:MV->Option A} {K':α->Option B}(h: ∀y,Sm g (K (f y)) (K' y))(e:l=M.map f:=by exact HK) (ei:i=i':=by exact HK):Sm g (idx l i K) (ix M i' K'):=by grind [eF]
end
class Es {A B:Type} (y:Option B) (x:outParam (Option A)) (f:outParam (B->A)):Prop where
 h:Sm f x y
theorem zk {A B A' B':Type}{g:B->A} {x x':Option A'}{y:Option B'}{f:B'->A'}{K:A'->Option A} {K':B'->Option B}(i:Es y x' f)(hk: ∀b,Sm g (K (f b)) (K' b))(e:x=x':=by exact HK):Sm g (bd x K) (bd y K'):=lI i.h hk e
theorem akh {A B:Type}{g:B->A}[B7 A]{X Y:Option A}{T:Option B}(h1:Sm g X T)(h2:Sm g Y T):Sm g (both X Y) T:=by rw [ake (h2.trans h1.symm)];exact h1
section
variable {A B σ' ρ' ρ1 ρ2 B':Type}{g:B->A}
theorem ass {n k:Nat}[En σ'][En ρ']{K:List MV->Option (Sum (List MV) (Nat×List MV))} {K':σ'->Option (Sum σ' ρ')}{d0:List MV}{s0:σ'}{KK:Nat×List MV->Option A} {KK':ρ'->Option B}(h: ∀s,Sm (Sum.map En.e (λr:ρ'=>(n,En.e r))) (K (En.e s)) (K' s))(hk: ∀b,Sm g (KK (n,En.e b)) (KK' b))(e0:d0=En.e s0:=by exact HK):Sm g (bd (sG k K d0) KK) (bd (Loop K' s0) KK'):=aE (lJ En.e (λr=>(n,En.e r)) h e0) hk
theorem an2 {n m k:Nat}[En σ'][En ρ1][En ρ2]{K:List MV->Option (Sum (List MV) (Nat×List MV))} {K':σ'->Option (Sum σ' (ρ1⊕ρ2))}{d0:List MV}{s0:σ'}{KK:Nat×List MV->Option A} {KK':ρ1⊕ρ2->Option B}(h: ∀s,Sm (Sum.map En.e (Sum.elim (λr=>(n,En.e r)) (λr=>(m,En.e r)))) (K (En.e s)) (K' s))(h1: ∀b,Sm g (KK (n,En.e b)) (KK' (.inl b)))(h2: ∀b,Sm g (KK (m,En.e b)) (KK' (.inr b)))(e0:d0=En.e s0:=by exact HK):Sm g (bd (sG k K d0) KK) (bd (Loop K' s0) KK'):=aE (lJ En.e (Sum.elim (λr=>(n,En.e r)) (λr=>(m,En.e r))) h e0) (by grind)
theorem r_j {n:Nat}[En B']{X:Option (Nat×List MV)}{Y:Option B'}{K:Nat×List MV->Option A} {K':B'->Option B}(h:Sm (λr=>(n,En.e r)) X Y)(hk: ∀b,Sm g (K (n,En.e b)) (K' b)):Sm g (bd X K) (bd Y K'):=aE h hk
theorem ast [En B']{X:Option (List MV)}{Y:Option B'}{K:List MV->Option A} {K':B'->Option B}(h:Sm (λr=>En.e r) X Y)(hk: ∀b,Sm g (K (En.e b)) (K' b)):Sm g (bd X K) (bd Y K'):=aE h hk
end
theorem sm {p:Prop}(h:p:=by repeat' ((conv=>arg 2;whnf);first|exact akg|exact afH|refine zk inferInstance λ_=> ?_|refine' an2 (n:=_) (m:=_) (λ_=> ?_) (λ_=> ?_) (λ_=> ?_)|refine' ass (n:=_) (λ_=> ?_) (λ_=> ?_)|refine kZ ?_|refine vW ?_ ?_|refine ov ?_ ?_|refine Ww ?_|refine akf ?_|refine akh ?_ ?_|refine Ew λ_=> ?_|refine ast ?_ λ_=> ?_|refine' r_j (n:=_) ?_ λ_=> ?_)):p:=h
structure Rng where
 i1:Nat
 o1:Array Oper
 a1:Oper
 b1:Oper
 x:Operand
 d1:Nat
 t:Nat
 d2:Nat
 k:Nat
 i2:Nat
 o2:Array Oper
 a2:Oper
 r2:List Oper
 cx:Operand
 kx:Nat
 k5:Nat
 i3:Nat
 o3:Array Oper
 a3:Oper
 r3:List Oper
 rest:Code
def Rng.body (q:Rng):Code:= .seq (.region q.i2 q.o2 false) (.seq (.cond q.cx .skip (.exit q.kx)) (.block q.k5 (.seq (.region q.i3 q.o3 false) q.rest)))
def Rng.code (q:Rng):Code:= .seq (.region q.i1 q.o1 false) (.block q.k (.loop q.body))
def isNone {α:Type}:Option α->Bool
 |none=>true
 |some _=>false
section
variable {P:Program}{c:Ctx}{Z Zb Zi:bn}{e e' e3:Env}{st bG jQ B:St}{a a':Act}{w w':World}{R:Type}{r:R}{Q:Exit->Act->World->Prop}{o:Oper}{hn:eE}
def bn.wd (Z:bn)(g:Nat):bn:={Z with In:=λb=>Z.In b\/b=g}
def Uj {g:Nat}{m:Option Nat}{s:Nat}{seen:Array Nat}{k:Nat}(h:bC c Z e st a w)(hg:w.heap[g]? =some (.mapIter m s seen k)): (∀t cs,ap st.fr t= .box cs->e.B t≠g)/\(∀f o,aB st.aF f=some o->(e.E f).ownBlock≠some g):=by
 refine ⟨λt cs ht he=> ?_,λf o ho he=> ?_⟩
 .have hs:=h.slot t;rw [ht] at hs;obtain ⟨ob,h1,h2⟩:=hs.2.obj;rw [he,hg] at h1;cases h1;exact h2.elim
 .obtain ⟨I,cells,_,_,h3,_⟩:=(h.fJ f o ho).row;rcases h3.2 with ⟨h1,_⟩|⟨g',cap,cD,h1,_,h2,_⟩;all_goals grind [aeb,ad0]
def wA.wide {g:Nat}{m:Option Nat}{s:Nat}{seen:Array Nat}{k:Nat}(j:wA c Zb Zi e B hn a w)(hz:Zb.In g)(hg:w.heap[g]? =some (.mapIter m s seen k)):wA c Zb (Zi.wd g) e B hn a w:=by obtain ⟨h1,h2⟩:=Uj j.sU hg;exact ⟨j.sU,λb hb=>hb.elim (j.sub b) (by grind),λb hb=> .inl (j.new b hb),j.ca,j.T,j.keys,λt cs ht hz=>hz.elim (j.box t cs ht) (h1 t cs ht),λf o b ho hb hz=>hz.elim (j.fJ f o b ho hb) (by grind),j.ajs,j.aeZ,j.ptr,j.men⟩
end
section
variable {P:Program}{c:Ctx}{R:Type}[B7 R]{r:R}
end
def afN {A B:Type}{g:B->A}{p q:Prop}[Decidable p][Decidable q]{X:Option A} {X':Option B}(e:p↔q)(h1:Sm g X X'):Sm g (fh (decide p) X) (if q then X' else none):=by
 by_cases hp:p
 .simp_all
 .rw [if_neg (λh=>hp (e.2 h)),decide_eq_false hp];rfl
@[reducible] def an3 {α : Type}(f : α -> MV)(l : List α) : MV := .clip (l.map f)
def bJ (c:UInt8):List UInt8->List (List UInt8)
 |[]=>[[]]
 |x::l=>if x=c then []::bJ c l else match bJ c l with
  |p::r=>(x::p)::r
  |[]=>[[x]]
def Kf:List MV->Option MV
 |[.s a,.s b]=>bif (ad6 1 a.length&&ad6 a.length (2^46))&&(ad6 2 b.length&&(ad6 b.length 1000&&b.all λx=>decide (x.toNat<128))) then some (.s (alF a b)) else none
 |_=>none
def s9:List MV->Option MV
 |[.s a,.i .i32 r]=>bif decide (0<=r/\r<128) then some (.b (decide (0<=alE a r.toNat.toUInt8))) else none
 |_=>none
def Ag:List MV->Option MV
 |[.s a,.s [c]]=>bif ad6 a.length 4294967280 then some (.fresh ((bJ c a).map MV.s)) else none
 |_=>none
def NS (a b:List UInt8):Option (List UInt8):=bif (ad6 1 a.length&&ad6 a.length (2^46))&&(ad6 2 b.length&&(ad6 b.length 1000&&b.all λx=>decide (x.toNat<128))) then some (alF a b) else none
def Ex (a:List UInt8)(r:Int):Option Bool:=bif decide (0<=r/\r<128) then some (decide (0<=alE a r.toNat.toUInt8)) else none
def Px (a s:List UInt8):Option (List (List UInt8)):=match s with
 |[c]=>bif ad6 a.length 4294967280 then some (bJ c a) else none
 |_=>none
def aki (a b:List UInt8):Sm MV.s (Kf [.s a,.s b]) (NS a b):=by unfold Sm Kf NS;grind
def Yj (a:List UInt8)(r:Int):Sm MV.b (s9 [.s a,.i .i32 r]) (Ex a r):=by grind [Sm,s9,Ex,decide]
def afO (a s:List UInt8):Sm (HI MV.s) (Ag [.s a,.s s]) (Px a s):=by
 unfold Sm Px;split
 .rename_i c;unfold Ag;grind
 simp_all [Ag,ajh,MV.s.injEq,and_true,absurd]
theorem Yk (c:UInt8): ∀l:List UInt8,Lib.splitK [c] 0 (Lib.count l [c]) l=bJ c l:=by
 intro l;induction l with
 |nil=>rfl
 |cons b l ih=>
  by_cases hb:b=c
  .subst hb;have ZR:aeY (b::l) [b]=0:=by rw [aeY];simp [List.isPrefixOf]
   rw [Lib.count_cons_eq,aja,Lib.splitK,ZR];simp [bJ,ih]
  .rw [Lib.count_cons_ne b c l hb];have hp:([c]:List UInt8).isPrefixOf (b::l)=false:=by simp [List.isPrefixOf,Ne.symm hb]
   have ZR:aeY (b::l) [c]=if aeY l [c]== -1 then-1 else aeY l [c]+1:=by rw [aeY,hp];simp
   simp only [bJ,hb,if_false];rw [<-ih];cases hk:Lib.count l [c] with
   |zero=>rfl
   |succ k=>
    have dt:aeY l [c]≠ -1:=by intro he;rw [Lib.count_miss he] at hk;cases hk
    have hge:=Lib.index_ge l [c];have ⟨j,hj⟩: ∃j:Nat,aeY l [c]=j:=⟨(aeY l [c]).toNat,aah⟩
    have akj:(aeY l [c]== -1)=false:=by simpa using dt
    have asu:(aeY (b::l) [c]== -1)=false:=by rw [ZR,hj];simp;omega
    rw [Lib.splitK,Lib.splitK,akj,asu,ZR,hj];simp_all
def Yl (c:UInt8)(s:ByteArray):(ah7 ⟨#[c]⟩ 0 (aex s ⟨#[c]⟩) s).map (·.data.toList)=bJ c s.data.toList:=by grind [Lib.splitB_data,Yk]
section
variable {P:Program}{ρ:Go.Shelf.Ren}{c:Ctx}
def FI {f:FuncId}{args:Array Value}{w:World}{S:Ending->World->Prop}{R:Value->World->Prop}(he: ∀args w,(callFunc f args).run P w= .ok (.enter f args) w)(hc:Calls P f args w S)(h: ∀e w',S e w'-> ∃v,e= .returned v/\R v w'): da P f args w R:=by unfold da;rw [he];exact hc.mono h
def Py {key:Nat->Nat} {φ:Ph}{v:Value}{l:List UInt8}(h:il key φ [v] (.s l)): ∃b:ByteArray,v= .string b/\b.data.toList=l:=by generalize hv:[v]=vs at h;cases h;grind
def Wx {Z:Nat->Prop} {φ:Ph}{w:World}{k:Nat}{vs:List Value}{a b:List UInt8}(hg:c.bK k=false)(h:cv c Z φ w k vs [.s a,.s b]): ∃x y:ByteArray,vs=[.string x,.string y]/\x.data.toList=a/\y.data.toList=b:=by simp only [cv,hg,AS,if_false] at h;obtain ⟨v,u,rfl,⟨_,h1⟩,v2,u2,rfl,⟨_,h2⟩,rfl⟩:=h;obtain ⟨x,rfl,hx⟩:=Py h1;obtain ⟨y,rfl,hy⟩:=Py h2;grind
def afP {Z:Nat->Prop} {φ:Ph}{w:World}{k:Nat}{kd:IntKind}{vs:List Value}{a:List UInt8}{n:Int}(hg:c.bK k=false)(h:cv c Z φ w k vs [.s a,.i kd n]): ∃x:ByteArray,vs=[.string x,.int kd n]/\x.data.toList=a:=by simp only [cv,hg,AS,if_false] at h;obtain ⟨v,u,rfl,⟨_,h1⟩,v2,u2,rfl,⟨_,h2⟩,rfl⟩:=h;obtain ⟨x,rfl,hx⟩:=Py h1;generalize hv:[v2]=vs at h2;cases h2;grind
def Ym (w:World)(q:Nat):Rest w (w.drewN q):=⟨rfl,rfl,rfl⟩
def ack {φ:Ph}{w:World}(hi:ni φ w){b:Nat}(hb:w.heap.size<=b)(off:Nat):φ b off=none:=by
 cases hp:φ b off with
 |none=>rfl
 |some u=>have:=No w _ (hi _ _ _ hp);grind
def afQ (L:alK P ρ)(an4:(P.info? (ρ.t 116)).map (λi=>(i.zero,i.size))=some (some (.agg (AI 256 (.bool false))),256))(hg:c.bK (c.key (ρ.f 160))=false){ms:List MV}{r:MV}(h:Kf ms=some r): dJ P c (ρ.f 160) ms r:=by
 unfold Kf at h;split at h
 .rename_i a b;cases hb:(ad6 1 a.length&&ad6 a.length (2^46))&&(ad6 2 b.length&&(ad6 b.length 1000&&b.all λx=>decide (x.toNat<128))) with
  |false=>grind
  |true=>
   rw [hb] at h;simp at h;subst h;simp only [bo] at hb;have ⟨⟨h1,h2⟩,h3,h4,h5⟩:=hb;have h1:=IT h1;have h2:=IT h2;have h3:=IT h3;have h4:=IT h4;intro φ w Z vs hz ha hi;obtain ⟨x,y,rfl,rfl,rfl⟩:=Wx hg ha;refine FI (ahO L.f160 aaM rfl) (Go.Proofs.Any.strings_Trim_set L (Go.zero_of_info an4).1 (Go.zero_of_info an4).2 x y w (by exact h3) (by rw [aih];omega) (by rw [aih];omega) (by rw [aih];omega) (Go.Proofs.ascii_of_all h5)) ?_;rintro e w' ⟨rfl,q,rfl⟩;refine ⟨_,rfl,φ,?_,?_,?_⟩
   .have g1:=cq.alloc w (aho y.data.toList) (ρ.t 116);have g2:=cq.alloc (w.alloc (.cells (aho y.data.toList) (ρ.t 116))) (aho y.data.toList) (ρ.t 116);have g:=g1.trans' g2;exact ⟨.refl φ,λb _ hl=>g.qo b hl,λ_ _ _=>rfl,g.size,g.rest.trans (Ym _ q)⟩
   .intro b o v hv;have g1:=cq.alloc w (aho y.data.toList) (ρ.t 116);have g2:=cq.alloc (w.alloc (.cells (aho y.data.toList) (ρ.t 116))) (aho y.data.toList) (ρ.t 116);exact (g1.trans' g2).cell (hi b o v hv)
   .exact ⟨rfl,by have:=il.s (key:=c.key) (φ:=φ) (⟨(alF x.data.toList y.data.toList).toArray⟩:ByteArray);grind⟩
 .cases h
def Uk (L:alL P ρ)(hg:c.bK (c.key (ρ.f 151))=false){ms:List MV}{r:MV}(h:s9 ms=some r):dJ P c (ρ.f 151) ms r:=by
 unfold s9 at h;split at h
 .rename_i a n;cases hb:decide (0<=n/\n<128) with
  |false=>grind
  |true=>rw [hb] at h;simp at h;subst h;have ⟨h1,h2⟩:=of_decide_eq_true hb;intro φ w Z vs hz ha hi;obtain ⟨x,rfl,rfl⟩:=afP hg ha;refine FI (ahO L.f151 aaM rfl) (aju L x n w h1 h2) ?_;rintro e w' ⟨rfl,rfl⟩;exact ⟨_,rfl,φ,.refl _ _ _,hi,rfl,.b _⟩
 .cases h
open Go.Proofs Go.Shelf Go.RowKit in
def Yn (L:ako P ρ)(hi9:(P.info? (ρ.t 9)).map (λi=>(i.zero,i.size,i.bytes))=some (some (.string aly),1,16))(s:ByteArray)(b:UInt8)(w:World)(hs:s.size<4294967281): Calls P (ρ.f 146) #[.string s,.string ⟨#[b]⟩] w λe w'=>
  e= .returned (.slice (some ⟨w.heap.size,0,none⟩) (aex s ⟨#[b]⟩+1) (aex s ⟨#[b]⟩+1))/\w'=w.alloc (.cells ((ah7 ⟨#[b]⟩ 0 (aex s ⟨#[b]⟩) s).map ahS).toArray (ρ.t 9)):=by
 have h1:1<=(⟨#[b]⟩:ByteArray).size:=ad1 _;have hle:=Lib.countB_le ⟨#[b]⟩ h1 s.size s (ad1 _);have hlen:=Lib.splitB_all ⟨#[b]⟩ h1 0 _ s rfl;have hC:Calls P (ρ.f 138) #[.string s,.string ⟨#[b]⟩] w λe w'=>e= .returned (.int .i64 (aex s ⟨#[b]⟩))/\w'=w:=by
  refine (Any.strings_Count_one {L with} s b w).mono λe w' ⟨he,hw⟩=>⟨?_,hw⟩
  rw [he];show _=Ending.returned (alN .i64 ((Lib.count s.data.toList [b]:Nat):Int));rw [Lib.count_one];rfl
 have c:=Any.strings_genSplit_core {L with} hi9 s ⟨#[b]⟩ 0 (-1) (aex s ⟨#[b]⟩+1) w hs h1 (aef _) (λx q hx=>(Any.strings_Index_one {L with} x b _).mono λe w' ⟨he,hw⟩=>⟨by rw [he];show _=Ending.returned (alN .i64 (aeY x.data.toList [b]));rw [Lib.index_one],hw⟩) hC aaD aaD (by grind);have e2:Lib.cellsOf (ah7 ⟨#[b]⟩ 0 (aex s ⟨#[b]⟩) s) (aex s ⟨#[b]⟩+1)=((ah7 ⟨#[b]⟩ 0 (aex s ⟨#[b]⟩) s).map ahS).toArray:=by rw [<-hlen];exact Lib.cellsOf_full _
 have axD: ∀args w,(callFunc (ρ.f 221) args).run P w= .ok (.enter (ρ.f 221) args) w:=enters_of L.f221 aaM rfl;go_enter L.f146,Body.n146_ntmps ρ;go_wp2_with (go_at_fn (ρ.f 221);refine c.mono ?_;rintro e w' ⟨rfl,hw⟩;rw [hw]);go_ret;simp_all
def Kg {key:Nat->Nat} {φ:Ph}: ∀l:List ByteArray,aU key φ 1 (l.map ahS) (l.map λb=>MV.s b.data.toList)
 |[]=>rfl
 |b::l=>⟨[.string b],_,rfl,rfl,.s b,Kg l⟩
def acm {I:TI}(L:ako P ρ)(hi9:(P.info? (ρ.t 9)).map (λi=>(i.zero,i.size,i.bytes))=some (some (.string aly),1,16))(hg:c.bK (c.key (ρ.f 146))=false)(ll:c.lq (c.key (ρ.f 146))=ρ.t 9)(hI:c.tv (ρ.t 9)=some I)(OI:I.size=1){ms:List MV}{r:MV}(h:Ag ms=some r):dJ P c (ρ.f 146) ms r:=by
 unfold Ag at h;split at h
 .rename_i a b;cases hb:ad6 a.length 4294967280 with
  |false=>grind
  |true=>
   rw [hb] at h;simp at h;subst h;have hb:=IT hb;intro φ w Z vs hz ha hi;obtain ⟨x,y,rfl,rfl,hy⟩:=Wx hg ha;have hy':y=⟨#[b]⟩:=by
    cases y with
    |mk d=>congr 1;grind
   subst hy';have hs:x.size<4294967281:=by rw [aih];omega
   refine FI (ahO L.f146 aaM rfl) (Yn L hi9 x b w hs) ?_;rintro e w' ⟨rfl,rfl⟩;have h1:1<=(⟨#[b]⟩:ByteArray).size:=ad1 _;have hle:=Lib.countB_le ⟨#[b]⟩ h1 x.size x (ad1 _);have hlen:=Lib.splitB_all ⟨#[b]⟩ h1 0 _ x rfl;have ol:=Yl b x;have g1:=cq.alloc w ((ah7 ⟨#[b]⟩ 0 (aex x ⟨#[b]⟩) x).map ahS).toArray (ρ.t 9);have ⟨lC,hc⟩:=aM hI;refine ⟨_,rfl,φ,g1.trans (Z:=bn.plain Z) hz φ,λb' o v hv=>g1.cell (hi b' o v hv),?_⟩;show bU _ _ _ _ _ ⟨c.lq (c.key (ρ.f 146)),false,_⟩;rw [ll];generalize hpc:ah7 ⟨#[b]⟩ 0 (aex x ⟨#[b]⟩) x=pcs at *;rw [<-ol,alH];refine ⟨I,pcs.map ahS,lC,hc,?_,by rw [OI];exact Kg pcs,?_⟩
   .rw [OI];refine ⟨aaS,.inr ⟨w.heap.size,aex x ⟨#[b]⟩+1,_,by simp [hlen],aef _,fL w _,by simp [hlen],by grind [Go.maxLen,aih],by simp [hlen],?_⟩⟩;simp [aed]
   .intro aQ n9;simp [aeb] at n9;subst n9;exact ⟨hz _ (ad1 _),λoff u hu=>(by have hu:φ w.heap.size off=some u:=hu;rw [ack hi (ad1 _)] at hu;cases hu),λhc=>False.elim hc⟩
 .cases h
end
structure CN where
 tS:Nat
 tP:Nat
 ti:Nat
 tN:Nat
 tM:Nat
 tm:Nat
 tZ:Nat
 tB:Nat
 tb:Nat
 tf:Nat
 fCl:Nat
 f1:Nat
 fEa:Nat
 fLd:Nat
 fIs:Nat
 f2:Nat
 f3:Nat
 fLe:Nat
 fEn:Nat
 fDe:Nat
 f:Nat
 fJ:Nat
 ty:Nat
 sz:Nat
def CN.k (n:CN):CK:=⟨n.fCl,n.fLd,n.fIs,n.f1,n.fEn,n.fDe,n.fLe,n.sz⟩
structure asw (P:Program) (c:Ctx) (g:Nat->List MV->Option MV) (n:CN) (fn:Func) (r:Nat->Nat) (o:Nat->Oper):Prop where
 pos:P.funcs[n.f]? =some fn
 name:(fn.name== "runtime.NumGoroutine")=false
 tmps:fn.ntmps=52
 res:fn.results= #[.cell 2 n.tS]
 body:fn.body=some (ab8 r o)
 ops:afB n.tS n.tP n.ti n.tN n.tM n.tm n.tZ n.tB n.tb n.tf n.fCl n.f1 n.fEa n.fLd n.fIs n.f2 n.f3 n.fLe o
 each: ∃fnE rE oE,aj7 P n.fEa n.tS n.tb n.tB n.ti fnE rE oE
 c2: ∃Iv r2 o2,ah4 P n.f2 n.fEn n.tP n.ti Iv r2 o2
 c3: ∃fn3 r3 o3,ah4 P n.f3 n.fDe n.tP n.tm fn3 r3 o3
 hT:fw P c.ti
 mix:P.follows .mixedOrders=true
 d5:sK c #[o 16,o 17,o 18,o 19,o 20,o 21,o 22] [0,1,2,3,4,5,6]=true
 d15:sK c #[o 49,o 50,o 51,o 52,o 53,o 54] [0,1,2,3,4,5]=true
 fl:c.fl=[]
 key: ∀f,c.key f=f
 snd: ∀f ms r,g f ms=some r->dJ P c f ms r
 tyS: ∃I,c.tv n.tS=some I/\I.st=true/\I.vN=[0,2,3,4,5]/\I.size=6
 tyP: ∃I,c.tv n.tP=some I/\I.st=false/\I.size=1
 tyi: ∃I,c.tv n.ti=some I/\I.st=false/\I.size=1
 tyN: ∃I,c.tv n.tN=some I/\I.st=false/\I.size=1
 tyM: ∃I,c.tv n.tM=some I/\I.st=false/\I.size=1
 tyB: ∃I,c.tv n.tB=some I/\I.st=false/\I.size=1
 tyb: ∃I,c.tv n.tb=some I/\I.st=false/\I.size=1
 tym: ∃I,c.tv n.tm=some I/\I.st=true/\I.size=n.sz
 tyZ: ∃I,c.tv n.tZ=some I/\I.st=true/\I.size=2
 axI:P.underlying n.tM=some (.slice n.tm)
 gv:c.bK n.fCl=false/\c.bK n.fLd=false/\c.bK n.fIs=false
 gvF:c.bK n.f=false
 gvC:c.bK n.fEn=true/\c.bK n.fDe=true/\c.bK n.fLe=true/\c.bK n.f1=true
 sig:c.sig n.fEn=some (0,KS n.fJ n.ty,KS n.fJ n.ty)/\c.sig n.fDe=some (0,KS n.fJ n.ty,KS n.fJ n.ty)/\c.sig n.fLe=some (0,KS n.fJ n.ty,KS n.fJ n.ty)
 axJ:c.sig n.f1=some (1,[.k (.i .i64)],[.k (.i .i64)])
 lq:c.lq n.fCl=n.ty
structure Fv (σ:Nat->Value) (bc br bd bv:Nat):Prop where
 h1:σ 1= .pointer (some ⟨bc,0,none⟩)
 h2:σ 2= .pointer (some ⟨br,0,none⟩)
 h3:σ 3= .pointer (some ⟨bd,0,none⟩)
 h4:σ 4= .pointer (some ⟨bv,0,none⟩)
theorem wOf {w:World}{g off:Nat}{vs:List Value}{arr:List Value}{T:TypeId}(hh:w.heap[g]? =some (.cells arr.toArray T (0,0)))(h: ∀j,j<vs.length->arr[off+j]? =vs[j]?):w.rangeAt g off vs:=by intro j v hj;rw [cell_of hh,List.getElem?_toArray,h j (afn.1 hj).1];exact hj
def acn {key:Nat->Nat} {φ:Ph}{v:Value}{n:Int}(h:cG key φ v (.i .i64 n)):v= .int .i64 n:=by obtain ⟨_,h⟩:=h;generalize DH:[v]=l at h;cases h;simpa using DH
def Ah {key:Nat->Nat} {φ:Ph}{n:Int}:cG key φ (.int .i64 n) (.i .i64 n):=⟨rfl,.i _ _⟩
def RP {key:Nat->Nat} {φ:Ph}{vs:List Value}{ms:List MV}(h:fq key φ vs ms):cG key φ (.agg vs.toArray) (.agg ms):=⟨vs.toArray,rfl,by simpa using h⟩
section
variable {P:Program}{c:Ctx}{g:Nat->List MV->Option MV}{n:CN}{fn:Func}{r:Nat->Nat}{o:Nat->Oper}{φ0 φ1:Ph}{w0 W:World}{bc br bd bv:Nat}{s s':CS}{v v' l:Int}{a:Act}{σ:Nat->Value}{Q:Exit->Act->World->Prop}{W':World}
abbrev CIn (c:Ctx)(n:CN) (φ0:Ph)(w0:World) (φ1:Ph)(bc bv br:Nat)(s:CS)(v:Int)(W:World):Prop:=CI c φ0 w0 φ1 bc bv br n.fJ n.ty s v W
def CI0.new {Z:Nat->Prop} {φ:Ph}{vs:List Value}{T:TypeId}(h:CI0 c φ0 w0 φ1 bc bv br n.fJ n.ty s v W Z φ)(hh:W'.heap[W.heap.size]? =some (.cells vs.toArray T (0,0)))(hs:W.heap.size<=W'.heap.size)(hold: ∀b,b<W.heap.size->W'.heap[b]? =W.heap[b]?)(hr:Rest W W'): CIn c n φ0 w0 (NP φ W.heap.size vs) bc bv br s v W':=by
 have pv: ∀o,φ W.heap.size o=none:=by
  intro o;cases hq:φ W.heap.size o with
  |none=>rfl
  |some u=>exact absurd (No W _ (h.jU _ _ _ hq)) (Nat.lt_irrefl _)
 have hle:=J3 (vs:=vs) pv;have kW:=h.same (v':=v) hs hr (λb hb _=>hold b hb) (h.hv.same λhl=>hold bv hl);have pi:bv<W.heap.size:=by obtain ⟨T,hT⟩:=h.hv;exact a8 hT
 have hlr:br<W.heap.size:=by obtain ⟨arr,T,hT,_⟩:=h.hr;exact a8 hT
 have dt: ∀b o,b<W.heap.size->NP φ W.heap.size vs b o=φ b o:=λb o hb=>by unfold NP;rw [if_neg (Nat.ne_of_lt hb)]
 refine ⟨_,_,kW.cell.more hle λb o hb=>dt b o hb.2,Eo kW.jU hh,⟨kW.tr.ph.trans hle,kW.tr.heap,λb o hb=> ?_,kW.tr.size,kW.tr.rest⟩,.refl _,kW.sub,kW.hv,kW.zv,λo=>by rw [dt _ _ pi];exact h.fv o,h.nv,kW.hr,kW.zr,λo=>by rw [dt _ _ hlr];exact h.fr o,h.nr,h.ne⟩;have:b<W.heap.size:=by have:=h.tr.size;omega
 rw [dt _ _ this];exact h.tr.free b o hb
def Hh {key:Nat->Nat} {φ:Ph}{x:Value}{xs:List MV}(h:il key φ [x] (.list xs)): ∃ad cp,x= .slice ad xs.length cp/\ ∀k (hk:k<xs.length),∃aQ off Fe vm,ad=some ⟨aQ,off,none⟩/\vm.length=Fe/\il key φ vm xs[k]/\ ∀j,j<Fe->φ aQ (off+k *Fe+j)=vm[j]? :=by
 generalize hv:[x]=l at h;generalize hm:MV.list xs=m at h;cases h with
 |list a cap ys aQ off Fe f h1 h2 h3 h4 h5=>cases hm;refine ⟨a,cap,by simpa using hv,λk hk=>⟨aQ,off,Fe,f k,h2 aah,h3 k hk,h5 k hk,λj hj=>h4 k j hk hj⟩⟩
 |_=>cases hm
theorem Iw {d:Nat}{op:Op}{p:Oper}(hp:ai p d op)(dt: ∀t,op≠ .alloc t):HD p=false:=by unfold HD;rw [hp.op];cases op<;>first|rfl|exact absurd rfl (dt _)
end
structure RQ where
 xs:List MV
 e:Int
 os:List MV
structure TkF where
 ti:Nat
 tx:Nat
 may:Nat
section
variable (g:Nat->List MV->Option MV)(k:TkF)
def tkI (j:Nat)(q:RQ):Option RQ:=if q.e=0 then (match g k.ti [.list q.xs] with
 |some (.cT [.i .i64 n,.list xs,.i .i64 e])=>some ⟨xs,e,q.os.set j (.i .i64 n)⟩
 |_=>none) else some q
def RR (j:Nat)(most:Int)(q:RQ):Option RQ:=if q.e=0 then (match g k.tx [.list q.xs,.i .i64 most] with
 |some (.cT [.s l,.list xs,.i .i64 e])=>some ⟨xs,e,q.os.set j (.s l)⟩
 |_=>none) else some q
def FJ:List Nat->RQ->Option RQ
 |[],q=>some q
 |j::r,q=>(match tkI g k j q with
  |some q=>FJ r q
  |none=>none)
def ZX:List MV:=[.i .i64 0,.i .i64 0,.i .i64 0,.s [],.s [],.i .i64 0,.i .i64 0,.i .i64 0]
def RS (xs:List MV):Option MV:=match FJ g k [0,1,2,5,6,7] ⟨xs,0,ZX⟩ with
 |some q=>(match RR g k 3 100 q with
  |some q=>(match RR g k 4 1000 q with
   |some q=>if q.e=0 then (match g k.may [.agg q.os] with
    |some (.b true)=>some (.cT [.agg q.os,.list q.xs,.i .i64 0])
    |some (.b false)=>some (.cT [.agg ZX,.list [],.i .i64 3])
    |_=>none) else some (.cT [.agg ZX,.list [],.i .i64 q.e])
   |none=>none)
  |none=>none)
 |none=>none
end
def aL.set {key:Nat->Nat} {φ:Ph}{v:Value}{m:MV}(h:cG key φ v m): ∀{ms:List MV} {vs:List Value} {j:Nat},aL key φ vs ms->aL key φ (vs.set j v) (ms.set j m):=by
 intro ms;induction ms with
 |nil=>intro vs j hh;subst hh;rfl
 |cons m' ms ih=>
  intro vs j hh;obtain ⟨v',r,rfl,h1,h2⟩:=hh;cases j with
  |zero=>exact ⟨v,r,rfl,h,h2⟩
  |succ j=>exact ⟨v',r.set j v,rfl,h1,ih h2⟩
theorem aL.len {key:Nat->Nat} {φ:Ph}: ∀{ms:List MV} {vs:List Value},aL key φ vs ms->vs.length=ms.length:=by
 intro ms;induction ms with
 |nil=>intro vs h;subst h;rfl
 |cons m ms ih=>intro vs h;obtain ⟨v,r,rfl,_,h2⟩:=h;simp [ih h2]
structure xk (c:Ctx) (φ0:Ph) (w0:World) (φ:Ph) (W:World) (q:RQ) (vs:List Value):Prop where
 jU:ni φ W
 tr:Trans (λb=>w0.heap.size<=b) φ0 w0 φ W
 h2: ∃zs T,W.heap[w0.heap.size]? =some (.cells zs T (0,0))/\zs.size=8
 hr: ∃vb T,W.heap[w0.heap.size+1]? =some (.cells [vb,.int .i64 q.e].toArray T (0,0))/\il c.key φ [vb] (.list q.xs)
 ho: ∃T,W.heap[w0.heap.size+2]? =some (.cells vs.toArray T (0,0))
 os:aL c.key φ vs q.os
 n:vs.length=8
 f: ∀j o,j<3->φ (w0.heap.size+j) o=none
section
variable {P:Program}{c:Ctx}{φ0 φ φ':Ph}{w0 W W':World}{q:RQ}{vs:List Value}
def xk.grow (h:xk c φ0 w0 φ W q vs)(t:Trans (λb=>W.heap.size<=b) φ W φ' W')(hi:ni φ' W'):xk c φ0 w0 φ' W' q vs:=by have ⟨zs,T2,a1,a2⟩:=h.h2;have ⟨vb,Tr,b1,b2⟩:=h.hr;have ⟨To,c1⟩:=h.ho;have uw:=a8 c1;have hold: ∀b,b<W.heap.size->W'.heap[b]? =W.heap[b]? :=λb hb=>t.heap b aah hb;refine ⟨hi,h.tr.trans (t.Aa (by grind)),(by grind),⟨vb,Tr,by grind,b2.mono t.ph⟩,(by grind),h.os.mono t.ph,h.n,λj o hj=> ?_⟩;rw [t.free _ o aah];exact h.f j o hj
def xk.wrote {q':RQ}{QL:List Value}(h:xk c φ0 w0 φ W q vs){j:Nat}(hj:j<3)(hs:W'.heap.size=W.heap.size)(hr:Rest W W')(ho: ∀b,b≠w0.heap.size+j->W'.heap[b]? =W.heap[b]?)(h2: ∃zs T,W'.heap[w0.heap.size]? =some (.cells zs T (0,0))/\zs.size=8)(hb: ∃vb T,W'.heap[w0.heap.size+1]? =some (.cells [vb,.int .i64 q'.e].toArray T (0,0))/\il c.key φ [vb] (.list q'.xs))(hv: ∃T,W'.heap[w0.heap.size+2]? =some (.cells QL.toArray T (0,0)))(hos:aL c.key φ QL q'.os)(hn:QL.length=8):xk c φ0 w0 φ W' q' QL:=by
 refine ⟨λb o u hu=>sC (h.jU b o u hu) λhl=>ho b λe=> ?_,⟨h.tr.ph,λb hb hl=> ?_,h.tr.free,by grind,h.tr.rest.trans hr⟩,h2,hb,hv,hos,hn,h.f⟩
 .rw [e,h.f j o hj] at hu;cases hu
 .rw [ho b aah];exact h.tr.heap b hb hl
def xk.asz (h:xk c φ0 w0 φ W q vs){j:Nat}{v:Value}{m:MV}(hm:cG c.key φ v m):xk c φ0 w0 φ (W.setRow (w0.heap.size+2) (vs.set j v).toArray) ⟨q.xs,q.e,q.os.set j m⟩ (vs.set j v):=by have ⟨zs,T2,a1,a2⟩:=h.h2;have ⟨vb,Tr,b1,b2⟩:=h.hr;have ⟨To,c1⟩:=h.ho;refine h.wrote (j:=2) aaD (setRow_size _ _ _) (.setRow _ _ _) (by grind [setRow_other]) (by grind [setRow_other]) (by grind [setRow_other]) ⟨To,iy _ c1⟩ (h.os.set hm) (by simp [h.n])
theorem xk.BM (h:xk c φ0 w0 φ W q vs){v:Value}{xs:List MV}(hm:il c.key φ [v] (.list xs)):xk c φ0 w0 φ (W.setRow (w0.heap.size+1) [v,.int .i64 q.e].toArray) ⟨xs,q.e,q.os⟩ vs:=by have ⟨zs,T2,a1,a2⟩:=h.h2;have ⟨vb,Tr,b1,b2⟩:=h.hr;have ⟨To,c1⟩:=h.ho;exact h.wrote (j:=1) aaD (setRow_size _ _ _) (.setRow _ _ _) (by grind [setRow_other]) (by grind [setRow_other]) ⟨v,Tr,iy _ b1,hm⟩ (by grind [setRow_other]) h.os h.n
def xk.RT (h:xk c φ0 w0 φ W q vs){vb:Value}(e:Int)(hb:il c.key φ [vb] (.list q.xs)):xk c φ0 w0 φ (W.setRow (w0.heap.size+1) [vb,.int .i64 e].toArray) ⟨q.xs,e,q.os⟩ vs:=by have ⟨zs,T2,a1,a2⟩:=h.h2;have ⟨vb',Tr,b1,b2⟩:=h.hr;have ⟨To,c1⟩:=h.ho;exact h.wrote (j:=1) aaD (setRow_size _ _ _) (.setRow _ _ _) (by grind [setRow_other]) (by grind [setRow_other]) ⟨vb,Tr,iy _ b1,hb⟩ (by grind [setRow_other]) h.os h.n
def Kh {t:TypeId}{I:TI}{x y:Operand}{e:Operand->Value}{g off:Nat}{v:Value}{ls:List Value}{T:TypeId}{o:Oper}(ho:eO o (.store t x y))(hT:fw P c.ti)(hI:c.tv t=some I)(hs:I.size=1)(hx:e x= .pointer (some ⟨g,off,none⟩))(hy:e y=v)(hc:v.cells.toList=[v])(h1:v.oneCell'=true)(bW:W.heap[g]? =some (.cells ls.toArray T (0,0)))(Xv:off<ls.length):(execOp e o).run P W= .ok .skip (W.setRow g (ls.set off v).toArray):=by have ⟨lC,HF⟩:=aM hI;rw [Iu (v:=v) ho (hT _ _ lC) HF hx hy (by grind) (by grind) bW (by grind),hc,hs];simp_all [List.set_eq_take_append_cons_drop,if_pos]
end
end
end Dn
