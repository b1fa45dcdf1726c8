import Derived.Test.YtbkodohojpchjaaGreatDoorDnB
import Derived.Laws.CopyRow
import Derived.Lib.AppendZerosOnto
import Derived.Lib.Overlaps
import Derived.Laws.Externs
import Derived.Lib.SlTrimSet
import Derived.Lib.Bytealg
import Derived.Shelf.Strings.Split
import Derived.Shelf.Strings.SlTrimAscii
import Derived.Shelf.Strings.Runes
import Derived.Lib.IndexBytes
import Derived.Control
/-
  Operations whose order is open. Conditions: none.
-/
set_option linter.unusedSimpArgs false
set_option linter.unusedVariables false
open List renaming range→c9,length_take→AI,length_append→AS,mem_cons→BY,take_append_of_le_length→aaF,length_drop→aaK,take_of_length_le→aaS,length_cons→abq,getElem?_eq_getElem→abr,getElem?_append_right→ab9,all_eq_true→aca,mem_map→acb,size_toArray→acg,mem_append→acp,getElem?_eq_none→acq,getElem?_drop→acr,getElem?_eq_some_iff→acI,forall_mem_cons→ac0,append_assoc→ade,nodup_cons→adA,getElem_mem→adW,map_cons→aec,getElem?_take_of_lt→aed,map_append→aef,getElem?_take→aej,getElem?_cons_succ→aek,ext_getElem?→ael,take_take→aeo,any_eq_true→afs,cons_append→afv,mem_of_mem_drop→afB,mem_iff_getElem→afE,nil_append→afH,length_map→afO,mem_singleton→af7,drop_drop→agd,getElem?_map→age,take_length→agS,sublist_cons_self→agT,drop_of_length_le→agV,take_append_drop→ag2,mem_of_getElem?→ahc,take_left→ahk,getElem?_range→ahp,nodup_append→ahy,take_add_one→ahE,map_map→ahF,take_append→ahG,append_nil→ahZ,drop_left→ah1
open Bool renaming and_eq_true→sh,false_eq_true→By,not_eq_true'→ace,eq_false_iff→aer,or_eq_true→agX,or_eq_false_iff→ahd
open Go.Region renaming ready→AT,wanted→aaq,binds→adV,noSelect→afP
open Option.some renaming injEq→IN,inj→ahL
open Array renaming replicate→IS,length_toList→aar,getElem?_append→ach,getElem?_eq_some_iff→acD,toList_inj→adn,getElem?_toList→adP,getD_eq_getD_getElem?→adU,setIfInBounds_comm→ago,getElem?_replicate→agq,toList_map→ags,getElem?_modify→agZ
open Nat renaming eq_of_beq_eq_true→IT,le_of_ble_eq_true→No,le_refl→OF,ble→aaL,mul_le_mul_right→ack,beq→acm,zero_le→aco,min_eq_left→acO,le_trans→acT,add_mul→ac9,lt_of_lt_of_le→aei,zero_add→aen,succ_mul→aeT,ble_eq_true_of_le→aeU,sub_mul→afz,add_comm→af3,min_def→ahh,add_zero→aiA
open Go.IntKind renaming wrap→aas,wrap_i64→adX,bits→aeq
open Go.Region.linearise renaming go→aaJ
open Go.World renaming block_lt_of_cell?→ab4,cell?_of_block→ac5,setRow→adi,frozen?→ais
open Go.Next renaming value→acd
open Go.Builtin renaming zeroCells→acf,copy_→acx,append_→acN,clear_→aep,firstCells→ahx
open Go.Act renaming put_comm→aci
open Go.Value renaming bool→acj,ownBlock→adm,pointer→afy,string→af4,cells→ag8,int→aiD
open Go.Result renaming ok→acn
open Prod.mk renaming injEq→acs
open Go.Lib renaming countB→acG,index→ads,setCells→aeu,size_eq→afD,splitB→af8,indexByte→ait,trimS→aiv
open Go.Addr renaming add_mid→adt
open List.cons renaming injEq→adB
open Go.Oper renaming upon_value→aeg,wp→af1,wp_mono→af2,upon→af5,apart_spec→agW
open Option renaming map_some→aeh
open Go.Instr renaming sliceBounds→aem,sliceBound→afx,sliceAt→agr,slice→ahe
open Go.Deferred renaming ofValue→afw
open Int renaming toNat_of_nonneg→afU,toNat→aho,fdiv→ah5
open Go.Proofs renaming enters_of→af0
open Go renaming sizeOf→af6,binOp→agA
open Go.Code renaming region→agk,wp_mono→agU
open List.Sublist renaming append_left→agp
open Go.Proofs.Any renaming strings_ContainsRune_ascii→ag7
open Go.Proofs.Lays renaming n146→ahr,n160→aiB,n151→aiC
open Go.Extern.SlicesOverlaps renaming overlaps→ahH
open Ne renaming symm→ah0
open Go.Op renaming intCmp→aiu
namespace Dn
open Go
section
variable {P:Program}{c:Ctx}{ops:Array Oper}{N:Act->World->Prop}
def qi (N:Act->World->Prop):Exit->Act->World->Prop
 | .normal,a,w=>N a w
 |_,_,_=>False
def xJ (c:Ctx)(oi:Oper)(ops:Array Oper)(i:Nat):Bool:=match ops[i]? with|some o=>Yn c o||BZ oi o|none=>true
def KP (P:Program)(c:Ctx)(ops:Array Oper)(N:Act->World->Prop) (φ:Ph):Nat->Array Bool->Act->World->Prop
 |0,listed,a,w=>AT .any ops listed=[]/\N a w
 |fuel+1,listed,a,w=>(AT .any ops listed=[]->N a w)/\ ∀i∈AT .any ops listed,wpOp P ops (qi N) i (λa' w'=>((∀oi,xJ c oi ops i=true->ir c oi w w')/\B6 φ w')/\KP P c ops N φ fuel (listed.setIfInBounds i true) a' w') a w
theorem Ws {φ φ':Ph}(hp:sD φ φ'): ∀(fuel:Nat)(listed:Array Bool)(a:Act)(w:World),KP P c ops N φ' fuel listed a w->KP P c ops N φ fuel listed a w:=by
 intro fuel;induction fuel with
 |zero=>intro listed a w h;exact h
 |succ fuel ih=>intro listed a w h;exact ⟨h.1,λi hi=>wpOp_mono (λa w h=>⟨⟨h.1.1,λb o v hv=>h.1.2 b o v (hp b o v hv)⟩,ih _ _ _ h.2⟩) (h.2 i hi)⟩
theorem ZL {φ:Ph}: ∀(fuel:Nat)(listed:Array Bool)(a:Act)(w:World),KP P c ops N φ fuel listed a w->wpAny P .any ops (qi N) fuel listed a w:=by
 intro fuel;induction fuel with
 |zero=>intro listed a w h;exact h
 |succ fuel ih=>intro listed a w h;exact ⟨h.1,λi hi=>wpOp_mono (λa w h=>ih _ _ _ h.2) (h.2 i hi)⟩
theorem SN {oi oj p:Oper} {w w':World}(h1:BZ oi p=true)(h2:BZ oj p=true)(h:ir c oi w w'):ir c oj w w':=by
 unfold BZ at h1 h2;split at h1
 ·rename_i t t' g1 g2;split at h2
  ·rename_i u u' g3 g4;rw [g2] at g4;cases g4;have e1:=IT h1;have e2:=IT h2;subst e1;subst e2;simpa [ir,ac4,g1,g3] using h
  ·cases h2
 ·cases h1
theorem ahJ {j:Nat}{oi oj:Oper}{v:Value}(hj:ops[j]? =some oj)(wj:oi.apart ops oj=true)(hsi: ∀cs b,oi.op≠ .select cs b)(hsj: ∀cs b,oj.op≠ .select cs b){K:Act->World->Prop}{a:Act}{w:World}(h:wpOp P ops (qi N) j K (a.put oi.dst v) w): wpOp P ops (qi N) j (λa' w'=>(execOp a'.eval oi=execOp a.eval oi/\aaq oi (yielded ops a'.tmps)=aaq oi (yielded ops a.tmps))/\K (a'.put oi.dst v) w') a w:=by
 obtain ⟨h1,h2,h3⟩:=agW wj;have keep: ∀(a:Act) (u:Value),execOp (a.put oj.dst u).eval oi=execOp a.eval oi/\aaq oi (yielded ops (a.put oj.dst u).tmps)=aaq oi (yielded ops a.tmps):=λa u=>⟨execOp_put oi hsi a oj.dst u h3,wanted_put oi a oj.dst u h3⟩
 unfold wpOp at *;simp only [hj] at *;rw [wanted_put oj a oi.dst v h1] at h;split
 ·rename_i hw;simp only [hw,if_true] at h;rcases h with h|⟨akM,ZM⟩;case inr=>obtain ⟨_,_,hf⟩:=ZM;exact hf.elim
  refine .inl ?_;unfold af1 at *;rw [execOp_put oj hsj a oi.dst v h1] at h;generalize (execOp a.eval oj).run P w=r at *;cases r with
  |ok n w'=>
   cases n<;>simp only [af5] at h⊢;case value u=>exact ⟨keep a u,by rw [<-aci a v u h2];exact h⟩
   case skip=>exact ⟨keep a _,by rw [<-aci a v undef h2];exact h⟩
   case defer d=>refine ⟨keep _ _,?_⟩;rw [<-aci _ v undef h2,<-Act.put_defers];exact h
   case enter f args=>
    refine Calls.mono h λx AZ he=> ?_;cases x with
    |returned u=>exact ⟨keep a u,by rw [<-aci a v u h2];exact he⟩
    |panicked c=>exact he
    |outgrown=>exact he
   case row row args=>exact Rows.mono h λu AZ he=>⟨keep a u,by rw [<-aci a v u h2];exact he⟩
  |halt x w'=>cases x<;>simp only [af5] at h⊢;case panic u=>exact h
 ·rename_i hw;simp only [hw] at h;exact ⟨keep a _,by rw [<-aci a v undef h2];exact h⟩
def UK (P:Program)(c:Ctx)(ops:Array Oper) (φ:Ph)(o:Oper)(v:Value)(a:Act)(w:World):Prop:=(aaq o (yielded ops a.tmps)=true/\ ∀w',(oL c o=true->(still c o=false->ir c o w w')/\B6 φ w')->(execOp a.eval o).run P w'= .ok (.value v) w')\/ (aaq o (yielded ops a.tmps)=false/\v=undef)
theorem IH {φ:Ph}{i:Nat}{oi:Oper}{v:Value}{D:List Nat}(hD: ∀j oj,j∈D->j≠i->ops[j]? =some oj-> ∃e∈oj.after,adV .any e=true/\e.on∈D)(hi:ops[i]? =some oi)(P1: ∀(j:Nat)(o:Oper) cs b,ops[j]? =some o->o.op≠ .select cs b): ∀(fuel:Nat)(listed:Array Bool)(a:Act)(w:World),(∀j oj,ops[j]? =some oj->j∉D->j≠i->listed.getD j true=false->oi.apart ops oj=true/\(oL c oi=true->still c oi=false->xJ c oi ops j=true))->(∀d∈D,listed.getD d false=false)-> i∈AT .any ops listed->UK P c ops φ oi v a w->B6 φ w-> KP P c ops N φ fuel (listed.setIfInBounds i true) (a.put oi.dst v) w->KP P c ops N φ (fuel+1) listed a w:=by
 have self: ∀(fuel:Nat) (listed:Array Bool) (a:Act) (w:World),UK P c ops φ oi v a w->B6 φ w->KP P c ops N φ fuel (listed.setIfInBounds i true) (a.put oi.dst v) w-> wpOp P ops (qi N) i (λa' w'=>((∀oi,xJ c oi ops i=true->ir c oi w w')/\B6 φ w')/\KP P c ops N φ fuel (listed.setIfInBounds i true) a' w') a w:=by
  intro fuel listed a w hy hm H;unfold wpOp;simp only [hi];rcases hy with ⟨hw,hv⟩|⟨hw,rfl⟩
  ·simp only [hw,if_true,af1,hv w (λ_=>⟨λ_=>(eI.refl w).for,hm⟩),af5];exact .inl ⟨⟨λ_ _=>(eI.refl w).for,hm⟩,H⟩
  ·simp only [hw,By,if_false];exact ⟨⟨λ_ _=>(eI.refl w).for,hm⟩,H⟩
 intro fuel;induction fuel with
 |zero=>
  intro listed a w _ _ hr hy hm H;refine ⟨λh=>(by rw [h] at hr;cases hr),λj hj=> ?_⟩;by_cases X3:j=i
  ·subst X3;exact self 0 listed a w hy hm H
  ·have:=ready_mono hj X3;rw [H.1] at this;cases this
 |succ fuel ih=>
  intro listed a w si GQ hr hy hm H;refine ⟨λh=>(by rw [h] at hr;cases hr),λj hj=> ?_⟩;by_cases X3:j=i
  ·subst X3;exact self (fuel+1) listed a w hy hm H
  ·have h1:=H.2 j (ready_mono hj X3);obtain ⟨adl,oj,hoj,nm⟩:=mem_ready.1 hj;have hjD:j∉D:=by intro hjd;obtain ⟨e,he,hb,vE⟩:=hD j oj hjd X3 hoj;have h1:=nm e he hb;rw [GQ e.on vE] at h1;cases h1
   obtain ⟨wj,hgr⟩:=si j oj hoj hjD X3 adl;have h2:=ahJ hoj wj (λcs b=>P1 i oi cs b hi) (λcs b=>P1 j oj cs b hoj) h1;have akN: ∀d∈D,(listed.setIfInBounds j true).getD d false=false:=by intro d hd;rw [getD_set_ne false (λhe=>hjD (by rw [he];exact hd))];exact GQ d hd
   have ahK: ∀k ok,ops[k]? =some ok->k∉D->k≠i->(listed.setIfInBounds j true).getD k true=false->oi.apart ops ok=true/\(oL c oi=true->still c oi=false->xJ c oi ops k=true):=λk ok hk hkD O4 hun=>by
    refine si k ok hk hkD O4 ?_;by_cases ZN:j=k
    ·subst ZN;exact adl
    ·rw [getD_set_ne true ZN] at hun;exact hun
   refine wpOp_mono (λa' w' h3=>⟨h3.2.1,ih (listed.setIfInBounds j true) a' w' ahK akN (ready_mono hr (ah0 X3)) ?_ h3.2.1.2 ?_⟩) h2
   ·obtain ⟨⟨he,hwn⟩,⟨hg,_⟩,_⟩:=h3;rcases hy with ⟨hw,hv⟩|⟨hw,rfl⟩
    ·refine .inl ⟨by rw [hwn];exact hw,λAZ Wt=> ?_⟩;rw [he];exact hv AZ (λhl=>⟨λhs=>(hg oi (hgr hl hs)).trans ((Wt hl).1 hs),(Wt hl).2⟩)
    ·exact .inr ⟨by rw [hwn];exact hw,rfl⟩
   ·rw [ago _ _ X3];exact h3.2.2
variable {Z:b7}{R:Type}{K:St->Option R}{r:R}
theorem Wu (op:Op):R6 op=op.operands.toList:=by
 cases op<;>first|rfl|simp [R6,Op.operands,Call.operands]
 all_goals first|rfl|(rename_i c;cases c.callee<;>simp)
theorem ZO (l:List Operand):Pm l=l.filterMap λ| .tmp t=>some t|_=>none:=by
 induction l with
 |nil=>rfl
 |cons x l ih=>cases x<;>simp [Pm,ih]
theorem LX (o:Oper):M4 ops.toList o=o.looksAt ops:=by
 unfold M4 Oper.looksAt;rw [Wu,ZO];congr 1;cases o.guard with
 |none=>rfl
 |some g=>obtain ⟨g,wnt⟩:=g;simp only [adP];cases ops[g]? <;>rfl
theorem Bb {x y:Oper}(h:M5 ops.toList x y=true):x.apart ops y=true:=by
 unfold M5 at h;unfold Oper.apart;rw [LX,LX] at h;have hn: ∀(l:List Nat) (d:Nat),bU l d=l.contains d:=by intro l d;have:=b4 l d;cases h1:bU l d<;>cases h2:l.contains d<;>simp_all
 cases hx:x.dst<;>cases hy:y.dst<;>simp_all [bne,gh]
theorem wv (e:Edge):HS e=adV .any e:=by unfold HS adV;cases e.ground<;>rfl
structure ZP (ops:Array Oper) (listed:Array Bool) (pre:List Nat):Prop where
 size:listed.size=ops.size
 mem: ∀i,i<ops.size->(listed.getD i true=true↔i∈pre)
theorem ZP.set {listed:Array Bool}{pre:List Nat}{x:Nat}(h:ZP ops listed pre)(hx:x<ops.size):ZP ops (listed.setIfInBounds x true) (x::pre):=by
 refine ⟨by simpa using h.size,λi hi=> ?_⟩;by_cases X4:x=i
 ·subst X4;have:x<listed.size:=by rw [h.size];exact hx
  simp [this]
 ·rw [getD_set_ne true X4,h.mem i hi];simp only [BY];exact ⟨.inr,λhh=>hh.resolve_left (λhe=>X4 he.symm)⟩
theorem ZP.Dl {listed:Array Bool}{pre:List Nat}{i:Nat}(h:ZP ops listed pre)(hi:i<ops.size):listed.getD i true=false↔i∉pre:=by rw [<-h.mem i hi];cases listed.getD i true<;>simp
theorem ZP.done {listed:Array Bool}{pre:List Nat}{i:Nat}(h:ZP ops listed pre)(hi:i<ops.size):listed.getD i false=true↔i∈pre:=by
 rw [<-h.mem i hi];have hl:i<listed.size:=by rw [h.size];exact hi
 simp [hl]
theorem zQ: ∀(rest pre:List Nat),wc c ops.toList pre rest=true-> ∀z∈rest,z∉pre:=by
 intro rest;induction rest with
 |nil=>intro pre _ z hz;cases hz
 |cons y rest ihr=>
  intro pre hd z hz;simp only [wc] at hd;cases hy:ops.toList[y]? with
  |none=>simp [hy] at hd
  |some oy=>
   simp only [hy,sh,ace] at hd;rcases BY.1 hz with rfl|hz
   ·rw [<-b4,hd.1.1.1.2];simp
   ·exact λhzp=>ihr (y::pre) hd.2 z hz (by simp [hzp])
theorem KQ {o:Oper}{x:Nat}: ∀(rest D0:List Nat),tc c ops.toList o D0 rest=true->(∀y,y∈D0->y≠x-> ∃p,ops[y]? =some p/\ ∃e∈p.after,adV .any e=true/\e.on∈D0)-> ∃D:List Nat,(∀y∈D0,y∈D)/\(∀y∈D,y∈D0\/y∈rest)/\(∀j oj,j∈D->j≠x->ops[j]? =some oj-> ∃e∈oj.after,adV .any e=true/\e.on∈D)/\ (∀y∈rest,y∉D-> ∃p,ops[y]? =some p/\o.apart ops p=true/\(oL c o=true->still c o=false->(Yn c p||BZ o p)=true)):=by
 intro rest;induction rest with
 |nil=>intro D0 _ h0;refine ⟨D0,λy hy=>hy,λy hy=> .inl hy,λj oj hj dG ho=> ?_,λy hy=>by cases hy⟩;obtain ⟨p,hp,he⟩:=h0 j hj dG;rw [ho] at hp;cases hp;exact he
 |cons y rest ih=>
  intro D0 h h0;simp only [tc] at h;cases hy:ops.toList[y]? with
  |none=>simp [hy] at h
  |some p=>
   simp only [hy] at h;have hy':ops[y]? =some p:=by simpa using hy
   cases he:Ck p (bU D0) with
   |true=>
    simp only [he,cond_true] at h;obtain ⟨D,D1,D2,D3,D4⟩:=ih (y::D0) h (by
     intro z hz dG;rcases BY.1 hz with rfl|hz
     ·unfold Ck at he;obtain ⟨ed,hed,hb⟩:=afs.1 he;simp only [sh,wv] at hb;exact ⟨p,hy',ed,by simpa using hed,hb.1,by simp [(b4 _ _).1 hb.2]⟩
     ·obtain ⟨q,hq,ed,h1,h2,h3⟩:=h0 z hz dG;exact ⟨q,hq,ed,h1,h2,by simp [h3]⟩)
    refine ⟨D,λz hz=>D1 z (by simp [hz]),λz hz=> ?_,D3,λz hz hzD=> ?_⟩
    ·rcases D2 z hz with h1|h1
     ·rcases BY.1 h1 with h1|h1
      ·exact .inr (by simp [h1])
      ·exact .inl h1
     ·exact .inr (by simp [h1])
    ·rcases BY.1 hz with rfl|hz
     ·exact absurd (D1 z (by simp)) hzD
     ·exact D4 z hz hzD
   |false=>
    simp only [he,cond_false,sh,agX,ace] at h;obtain ⟨⟨h1,h2⟩,h3⟩:=h;obtain ⟨D,D1,D2,D3,D4⟩:=ih D0 h3 h0;refine ⟨D,D1,λz hz=>(D2 z hz).imp id (λh=>by simp [h]),D3,λz hz hzD=> ?_⟩;rcases BY.1 hz with rfl|hz
    ·refine ⟨p,hy',Bb h1,λhl hs=> ?_⟩;rcases h2 with ((h2|h2)|h2)|h2
     ·rw [hl] at h2;cases h2
     ·simp [h2]
     ·rw [hs] at h2;cases h2
     ·simp [h2]
    ·exact D4 z hz hzD
def b7.outs (Z:b7)(bs:List Nat):b7:={Z with In:=λb=>Z.In b/\b∉bs,Pr:=λb=>Z.Pr b/\b∉bs}
theorem cF.Ga {Z Z':b7}{e:Env}{st:St}{a:Act}{w:World}(h:cF c Z e st a w)(hI: ∀b,Z.In b->Z'.In b)(hP: ∀b,Z.Pr b->Z'.Pr b)(h1:Z'.dg=Z.dg)(h2:Z'.cZ=Z.cZ)(h3:Z'.T=Z.T)(h4:Z'.cov=Z.cov):cF c Z' e st a w:=by
 refine ⟨by rw [h1,h2,h3];exact h.defers,h.size,h.m,h.key,h.nodup,λt=> ?_,h.root,λf o ho=> ?_,h.bb,h.bf,h.ff,h.qe,λb hb=>hI b (h.dn b hb)⟩
 ·have hs:=h.slot t;generalize au st.fr t=s at hs;cases s<;>simp only [cu] at hs⊢ <;>first|exact hs|skip
  exact ⟨⟨hs.1.1,λhp=>by rw [h1,h3];exact hs.1.2 hp⟩,⟨by rcases hs.2.dn with ⟨x,y⟩|x;exact .inl ⟨by rw [h1];exact x,hP _ y⟩;exact .inr (hI _ x),hs.2.obj,hs.2.free⟩⟩
 ·obtain ⟨I,cells,g1,g2,g3,g4,g5⟩:=(h.jO f o ho).row;refine ⟨I,cells,g1,g2,g3,g4,λbG hb=> ?_⟩;obtain ⟨k1,k2,k3⟩:=g5 bG hb;refine ⟨?_,k2,λhc hz j hj=>k3 (by have hc:f∈Z'.cZ:=hc;rw [h2] at hc;exact hc) hz j hj⟩;rcases k1 with ⟨x,y⟩|x
  ·exact .inl ⟨by rw [h2];exact x,hP _ y⟩
  ·exact .inr (hI _ x)
theorem cF.narrow {e:Env}{st:St}{a:Act} {w w':World}{bs:List Nat}(h:cF c (Z.outs bs) e st a w)(g:eI w w')(hs:w.heap.size<w'.heap.size):cF c (Z.outs (w.heap.size::bs)) e st a w':=by
 have h':=h.grow g;have vG: ∀b,b<w.heap.size->(Z.outs bs).In b->(Z.outs (w.heap.size::bs)).In b:=λb hb hi=>⟨hi.1,by simp only [BY,not_or];exact ⟨by omega,hi.2⟩⟩
 have Ic: ∀b,b<w.heap.size->(Z.outs bs).Pr b->(Z.outs (w.heap.size::bs)).Pr b:=λb hb hi=>⟨hi.1,by simp only [BY,not_or];exact ⟨by omega,hi.2⟩⟩
 refine ⟨h'.defers,h'.size,h'.m,h'.key,h'.nodup,λt=> ?_,h'.root,λf o ho=> ?_,h'.bb,h'.bf,h'.ff,h'.qe,λb hb=> ?_⟩
 ·have hs:=h.slot t;have A4:=h'.slot t;generalize au st.fr t=s at hs A4;cases s<;>simp only [cu] at hs A4⊢ <;>first|exact A4|skip
  obtain ⟨o2,k1,_⟩:=hs.2.obj;have hl:=bW k1;exact ⟨A4.1,⟨by rcases A4.2.dn with ⟨x,y⟩|x;exact .inl ⟨x,Ic _ hl y⟩;exact .inr (vG _ hl x),A4.2.obj,A4.2.free⟩⟩
 ·obtain ⟨I,cells,g1,g2,g3,g4,g5⟩:=(h'.jO f o ho).row;refine ⟨I,cells,g1,g2,g3,g4,λbG hb=> ?_⟩;obtain ⟨k1,k2,k3⟩:=g5 bG hb;refine ⟨?_,k2,k3⟩;have hl:bG<w.heap.size:=by
   obtain ⟨I',YJ,l1,l2,l3,l4,l5⟩:=(h.jO f o ho).row;rcases l3.2 with ⟨hv,_⟩|⟨gg,cap,dM,hv,_,hg,_⟩
   ·rw [hv] at hb;simp [adm] at hb
   ·rw [hv] at hb;simp only [adm,IN] at hb;have:=bW hg;omega
  rcases k1 with ⟨x,y⟩|x
  ·exact .inl ⟨x,Ic _ hl y⟩
  ·exact .inr (vG _ hl x)
 ·refine ⟨(h.dn b (by omega)).1,?_⟩;simp only [BY,not_or];exact ⟨by omega,(h.dn b (by omega)).2⟩
def vOf (b:Nat):Value:= .pointer (some ⟨b,0,none⟩)
def wz (ops:Array Oper)(i:Nat):Option Nat:=match ops[i]? with
 |some o=>o.dst
 |none=>none
def vK (ops:Array Oper):List (Nat×Nat)->Act->Act
 |[],a=>a
 |p::r,a=>(vK ops r a).put (wz ops p.1) (vOf p.2)
structure ado (c:Ctx) (Z:b7) (ops:Array Oper) (e:Env) (w:World) (p:Nat×Nat):Prop where
 row: ∃o t I d arr T,ops[p.1]? =some o/\Pn o=true/\o.op= .alloc t/\c.tv t=some I/\o.dst=some d/\w.heap[p.2]? =some (.cells arr T (0,0))/\ ∀e':Env,aJ e' arr.toList I.zero
 free: ∀off,e.φ p.2 off=none
 dn:Z.In p.2
theorem Bc {o:Oper}(h:Pn o=true): ∃t d,o.op= .alloc t/\o.dst=some d/\o.guard=none/\ ∀e∈o.after,adV .any e=false:=by
 unfold Pn at h;split at h
 ·rename_i t d h1 h2 h3;refine ⟨t,d,h1,h2,h3,λe he=> ?_⟩;have:=aca.1 h e (by simpa using he);simpa [wv] using this
 ·cases h
theorem Cy {t:TypeId}{I:TI}(hI:c.tv t=some I)(hT:lW P c.ti): ∃i z,P.info? t=some i/\i.zero=some z/\ ∀e:Env,aJ e z.cells.toList I.zero:=by
 obtain ⟨uB,hc⟩:=b8 hI;obtain ⟨d,i,h1,h2,h3,h4⟩:=hT t I uB;suffices hz: ∃z,i.zero=some z/\ ∀e:Env,aJ e z.cells.toList I.zero by obtain ⟨z,h5,h6⟩:=hz;exact ⟨i,z,h2,h5,h6⟩
 cases d<;>simp only [uA] at h4;case struct fs=>obtain ⟨_,_,_,_,_,_,cs,hz,hl,_⟩:=h4;exact ⟨_,hz,λe=>by simpa [ag8] using qY hl⟩
 case tuple ts=>exact absurd hc h4.2.1
 case slice el=>obtain ⟨_,_,_,_,_,hz,hl,_⟩:=h4;exact ⟨_,hz,λe=>by rw [hl];exact ⟨[.slice none 0 0],[],rfl,rfl,rfl⟩⟩
 case array n el=>obtain ⟨_,_,_,_,_,_,_,hl,hz⟩:=h4;exact ⟨_,hz,λe=>by rw [hl];exact ⟨bR lR.zero,[],by simp [ag8],rfl,rfl⟩⟩
 case bool=>obtain ⟨_,_,_,_,hl,hz⟩:=h4;exact ⟨_,hz,λe=>by rw [hl];exact ⟨[.bool false],[],rfl,⟨rfl,.b _⟩,rfl⟩⟩
 case int k=>obtain ⟨_,_,_,_,hl,hz⟩:=h4;exact ⟨_,hz,λe=>by rw [hl];exact ⟨[.int k 0],[],rfl,⟨rfl,.i _ _⟩,rfl⟩⟩
 case string=>obtain ⟨_,_,_,_,hl,b,hz,hb⟩:=h4;refine ⟨_,hz,λe=>by rw [hl];refine ⟨[.string b],[],rfl,⟨rfl,?_⟩,rfl⟩;rw [<-hb];exact .s b⟩
 all_goals
  obtain ⟨_,_,_,_,v,hz,hv,hl⟩:=h4;refine ⟨v,hz,λe=> ?_⟩;have:v.cells.toList=[v]:=by cases v<;>simp_all [ag8,Value.oneCell']
  rw [this];exact qY hl
theorem Gb {o:Oper}(hs: ∀cs b,o.op≠ .select cs b)(a:Act): ∀(pd:List (Nat×Nat)),(∀p∈pd,∀d,wz ops p.1=some d->d∉o.looksAt ops)-> execOp (vK ops pd a).eval o=execOp a.eval o/\aaq o (yielded ops (vK ops pd a).tmps)=aaq o (yielded ops a.tmps)
 |[],_=>⟨rfl,rfl⟩
 |p::r,h=>by obtain ⟨h1,h2⟩:=Gb hs a r (λq hq=>h q (by simp [hq]));have hp:=h p (by simp);exact ⟨(execOp_put o hs _ _ _ hp).trans h1,(wanted_put o _ _ _ hp).trans h2⟩
theorem Dm (a:Act)(y:Option Nat)(v:Value): ∀(pd:List (Nat×Nat)),(∀p∈pd,∀d,wz ops p.1=some d->y≠some d)->(vK ops pd a).put y v=vK ops pd (a.put y v)
 |[],_=>rfl
 |p::r,h=>by simp only [vK];rw [aci _ _ _ (λd hd=>h p (by simp) d hd),Dm a y v r (λq hq=>h q (by simp [hq]))]
theorem adp {j:Nat}{oj:Oper}{x:Option Nat}{v:Value}(hj:ops[j]? =some oj)(h1: ∀d,x=some d->d∉oj.looksAt ops)(h2: ∀d,x=some d->oj.dst≠some d)(hsj: ∀cs b,oj.op≠ .select cs b){K:Act->World->Prop}{a:Act}{w:World}(h:wpOp P ops (qi N) j K a w): wpOp P ops (qi N) j (λa' w'=> ∃a'',a'=a''.put x v/\K a'' w') (a.put x v) w:=by
 unfold wpOp at *;simp only [hj] at *;rw [wanted_put oj a x v h1];split
 ·rename_i hw;simp only [hw,if_true] at h;rcases h with h|⟨akM,ZM⟩;case inr=>obtain ⟨_,_,hf⟩:=ZM;exact hf.elim
  refine .inl ?_;unfold af1 at *;rw [execOp_put oj hsj a x v h1];generalize (execOp a.eval oj).run P w=r at *;cases r with
  |ok n w'=>
   cases n<;>simp only [af5] at h⊢;case value u=>exact ⟨_,aci a v u h2,h⟩
   case skip=>exact ⟨_,aci a v undef h2,h⟩
   case defer d=>refine ⟨{a.put oj.dst undef with defers:=d::(a.put oj.dst undef).defers},?_,by simpa [Act.put_defers] using h⟩;have:=aci a v undef h2;cases x<;>cases hd:oj.dst<;>simp_all [Act.put]
   case enter f args=>
    refine Calls.mono h λy AZ he=> ?_;cases y with
    |returned u=>exact ⟨_,aci a v u h2,he⟩
    |panicked c=>exact he
    |outgrown=>exact he
   case row row args=>exact Rows.mono h λu AZ he=>⟨_,aci a v u h2,he⟩
  |halt y w'=>cases y<;>simp only [af5] at h⊢;case panic u=>exact h
 ·rename_i hw;simp only [hw] at h;exact ⟨_,aci a v undef h2,h⟩
theorem UL {j:Nat}{oj:Oper}(hj:ops[j]? =some oj)(hsj: ∀cs b,oj.op≠ .select cs b){K:Act->World->Prop}{a:Act}{w:World}(h:wpOp P ops (qi N) j K a w): ∀(pd:List (Nat×Nat)),(∀p∈pd,∀d,wz ops p.1=some d->d∉oj.looksAt ops/\oj.dst≠some d)->wpOp P ops (qi N) j (λa' w'=> ∃a'',a'=vK ops pd a''/\K a'' w') (vK ops pd a) w
 |[],_=>wpOp_mono (λa' w' hk=>⟨a',rfl,hk⟩) h
 |p::r,hp=>by have h1:=UL hj hsj h r (λq hq=>hp q (by simp [hq]));have h2:=adp (v:=vOf p.2) hj (λd hd=>(hp p (by simp) d hd).1) (λd hd=>(hp p (by simp) d hd).2) hsj h1;refine wpOp_mono ?_ h2;rintro a' w' ⟨a1,rfl,a2,rfl,hk⟩;exact ⟨a2,rfl,hk⟩
theorem Fc: ∀{l m:List Nat},l.Nodup->(∀x∈l,x∈m)->l.length<=m.length
 |[],m,_,_=>aco _
 |x::l,m,hn,hs=>by have hn:=adA.1 hn;have h1:l.length<=(m.erase x).length:=Fc hn.2 λy hy=>(List.mem_erase_of_ne (λhe=>hn.1 (by rw [<-he];exact hy))).2 (hs y (by simp [hy]));have h2:=List.length_erase_of_mem (hs x (by simp));have h3:0<m.length:=List.length_pos_of_mem (hs x (by simp));simp only [abq];omega
theorem P2 {x b:Nat}{o:Oper}(hdo:wz ops x=o.dst)(a:Act)(pr:List (Nat×Nat)): ∀(pl:List (Nat×Nat)),(∀p∈pl++pr,∀dd,wz ops p.1=some dd->o.dst≠some dd)->vK ops (pl++(x,b)::pr) a=vK ops (pl++pr) (a.put o.dst (vOf b))
 |[],h=>by simp only [afH,vK,hdo];exact Dm a o.dst (vOf b) pr (λp hp=>h p (by simp [hp]))
 |q::pl,h=>by simp only [afv,vK];rw [P2 hdo a pr pl (λp hp=>h p (by simp only [afv,BY];exact .inr hp))]
theorem ZP.congr {listed:Array Bool} {l l':List Nat}(h:ZP ops listed l)(he: ∀i,i∈l↔i∈l'):ZP ops listed l':=⟨h.size,λi hi=>by rw [h.mem i hi,he]⟩
theorem P3 {o:Oper}: ∀(rest D:List Nat),tc c ops.toList o D rest=true-> ∀y∈rest,∀p,ops[y]? =some p->Pn p=true->o.apart ops p=true:=by
 intro rest;induction rest with
 |nil=>intro D _ y hy;cases hy
 |cons z rest ih=>
  intro D h y hy p hp GP;simp only [tc] at h;cases hz:ops.toList[z]? with
  |none=>simp [hz] at h
  |some q=>
   simp only [hz] at h;cases he:Ck q (bU D) with
   |true=>
    simp only [he,cond_true] at h;rcases BY.1 hy with rfl|hy
    ·exfalso;have hz':ops[y]? =some q:=by simpa using hz
     rw [hz'] at hp;cases hp;obtain ⟨_,_,_,_,_,dG⟩:=Bc GP;unfold Ck at he;obtain ⟨ed,hed,hb⟩:=afs.1 he;simp only [sh,wv] at hb;rw [dG ed (by simpa using hed)] at hb;exact absurd hb.1 (by simp)
    ·exact ih _ h y hy p hp GP
   |false=>
    simp only [he,cond_false,sh] at h;rcases BY.1 hy with rfl|hy
    ·have hz':ops[y]? =some q:=by simpa using hz
     rw [hz'] at hp;cases hp;exact Bb h.1.1
    ·exact ih _ h.2 y hy p hp GP
theorem II {o p:Oper}{y:Nat}(hp:ops[y]? =some p)(h:p.apart ops o=true\/o.apart ops p=true): ∀d,wz ops y=some d->d∉o.looksAt ops/\o.dst≠some d:=by
 intro d hd;have hd:p.dst=some d:=by simpa [wz,hp] using hd
 rcases h with h|h
 ·obtain ⟨h1,h2,h3⟩:=agW h;exact ⟨h1 d hd,h2 d hd⟩
 ·obtain ⟨h1,h2,h3⟩:=agW h;exact ⟨h3 d hd,λhe=>h2 d he hd⟩
theorem ado.later {Z:b7}{bs:List Nat} {e e':Env} {w w':World}{p:Nat×Nat}(h:ado c Z ops e w p)(hb:p.2∈bs)(t:Trans (Z.outs bs).In e.φ w e'.φ w'):ado c Z ops e' w' p:=by obtain ⟨o,ty,I,d,arr,T,h1,h2,h3,h4,h5,h6,h7⟩:=h.row;have hn: ¬(Z.outs bs).In p.2:=λhh=>hh.2 hb;exact ⟨⟨o,ty,I,d,arr,T,h1,h2,h3,h4,h5,by rw [t.heap _ hn (bW h6)];exact h6,h7⟩,λoff=>by rw [t.free _ off hn];exact h.free off,h.dn⟩
theorem Trans.wide {Z Z':Nat->Prop} {φ φ':Ph} {w w':World}(t:Trans Z φ w φ' w')(h: ∀b,Z b->Z' b):Trans Z' φ w φ' w':=⟨t.ph,λb hb hl=>t.heap b (λhz=>hb (h b hz)) hl,λb o hb=>t.free b o (λhz=>hb (h b hz)),t.size,t.rest⟩
theorem adq (hG:Good P c)(P1: ∀(j:Nat)(o:Oper) cs b,ops[j]? =some o->o.op≠ .select cs b) {φ0:Ph}{w0:World}(hN: ∀a' w',Out c Z K r φ0 w0 a' w'->N a' w'): ∀(m:Nat)(rest pre:List Nat)(pd:List (Nat×Nat))(l:List Oper)(listed:Array Bool)(e:Env)(st:St)(a:Act)(w:World),2 *rest.length-pd.length<=m->cF c (Z.outs (pd.map (·.2))) e st a w->BG c ops.toList l st K=some r->Trans Z.In φ0 w0 e.φ w->qF ops.toList rest=some l-> wc c ops.toList pre rest=true->ZP ops listed (pd.map (·.1)++pre)->(∀i,i<ops.size->i∈pre\/i∈rest)->(∀i∈pre,i<ops.size)->(∀p∈pd,p.1∈rest)->(pd.map (·.1)).Nodup->(pd.map (·.2)).Nodup->(∀p∈pd,ado c Z ops e w p)-> pd.length<=rest.length->KP P c ops N e.φ (rest.length-pd.length) listed (vK ops pd a) w:=by
 intro m;induction m with
 |zero=>
  intro rest pre pd l listed e st a w hm h hK ht hp hd hL nm ZQ Ic KH GL XZ hle;cases rest with
  |cons x rest=>simp only [abq] at hm hle;omega
  |nil=>
   cases pd with
   |cons p pd=>simp at hle
   |nil=>
    cases hp;have h':cF c Z e st a w:=h.Ga (λb hb=>hb.1) (λb hb=>hb.1) rfl rfl rfl rfl;refine ⟨?_,hN a w ⟨e,st,h',ht,hK⟩⟩;cases hr:AT .any ops listed with
    |nil=>rfl
    |cons i is=>
     have hi:i∈AT .any ops listed:=by rw [hr];simp
     obtain ⟨h1,o,ho,_⟩:=mem_ready.1 hi;have dY:i<ops.size:=(acD.1 ho).1;exact absurd (by simpa using (nm i dY).resolve_right (by simp)) ((hL.Dl dY).1 h1)
 |succ m ihm=>
  intro rest pre pd l listed e st a w hm h hK ht hp hd hL nm ZQ Ic KH GL XZ hle;cases rest with
  |nil=>
   cases pd with
   |cons p pd=>simp at hle
   |nil=>exact ihm [] pre [] l listed e st a w (by simp) h hK ht hp hd hL nm ZQ Ic KH GL XZ hle
  |cons x rest=>
   simp only [qF] at hp;cases hox:ops.toList[x]? with
   |none=>simp [hox] at hp
   |some o=>
    cases hpk:qF ops.toList rest with
    |none=>simp [hox,hpk] at hp
    |some l'=>
     simp only [hox,hpk,IN] at hp;subst hp;have hx:ops[x]? =some o:=by simpa using hox
     have ahM:x<ops.size:=(acD.1 hx).1;have hd0:=hd;simp only [wc,hox] at hd;simp only [sh,ace] at hd;obtain ⟨⟨⟨⟨d1,d2⟩,d3⟩,d4⟩,d5⟩:=hd;have afV:x∉pre:=by rw [<-b4,d2];simp
     have aoO:x∉rest:=by rw [<-b4,d3];simp
     have UM: ∀i,i<ops.size->i∈x::pre\/i∈rest:=by
      intro i hi;rcases nm i hi with h1|h1
      ·exact .inl (by simp [h1])
      ·rcases BY.1 h1 with h1|h1
       ·exact .inl (by simp [h1])
       ·exact .inr h1
     have afW: ∀i∈x::pre,i<ops.size:=by
      intro i hi;rcases BY.1 hi with rfl|hi
      ·exact ahM
      ·exact ZQ i hi
     have ahN:=hK;simp only [BG] at hK;have ZR: ∀p∈pd,∃q,ops[p.1]? =some q/\Pn q=true:=λp hp=>by obtain ⟨q,_,_,_,_,_,h1,h2,_⟩:=(XZ p hp).row;exact ⟨q,h1,h2⟩
     unfold Uj at hK;obtain ⟨cP,go,h',hK,hw⟩:=PQ h hK;have afX: ∀cs b,o.op≠ .select cs b:=λcs b=>P1 x o cs b hx;by_cases hxp:x∈pd.map (·.1)
     ·
      obtain ⟨⟨x',b⟩,hpx,hxe⟩:=acb.1 hxp;have hxe:x'=x:=hxe;subst hxe;obtain ⟨o',t,I,d,arr,T,k1,k2,k3,k4,k5,k6,k7⟩:=(XZ _ hpx).row;rw [hx] at k1;cases k1;obtain ⟨_,_,_,_,hgn,dG⟩:=Bc k2;have hgo:go=true:=by rw [<-hw];simp [aaq,hgn]
      subst hgo;have Ps:(uz o&&!oS c o)=false:=by simp [uz,k3]
      simp only [Ps,cond_false] at d4;obtain ⟨pl,pr,rfl⟩:=List.append_of_mem hpx;have hbn:b∉(pl++pr).map (·.2):=by have:((pl++(x',b)::pr).map (·.2)).Nodup:=GL;simp only [aef,aec,ahy,adA,BY] at this;simp only [aef,acp,not_or];exact ⟨λhm=>this.2.2 b hm b (by simp) rfl,this.2.1.1⟩
      have hxn:x'∉(pl++pr).map (·.1):=by have:((pl++(x',b)::pr).map (·.1)).Nodup:=KH;simp only [aef,aec,ahy,adA,BY] at this;simp only [aef,acp,not_or];exact ⟨λhm=>this.2.2 x' hm x' (by simp) rfl,this.2.1.1⟩
      have P4: ∀p∈pl++pr,p∈pl++(x',b)::pr:=λp hp=>by
       simp only [acp,BY] at hp⊢;rcases hp with hp|hp
       ·exact .inl hp
       ·exact .inr (.inr hp)
      have tf:cF c (Z.outs ((pl++pr).map (·.2))) e cP a w:=by
       refine h'.Ga (λu hu=>⟨hu.1,λhm=>hu.2 ?_⟩) (λu hu=>⟨hu.1,λhm=>hu.2 ?_⟩) rfl rfl rfl rfl<;>
       ·obtain ⟨p,hp,rfl⟩:=acb.1 hm;exact acb.2 ⟨p,P4 p hp,rfl⟩
      have adr:b∈(pl++(x',b)::pr).map (·.2):=by simp
      have lP:te (Z.outs ((pl++pr).map (·.2))) e w cP (vOf b) (.box I.zero):=by
       refine ⟨b,by rw [vC (k7 e).B2];rfl,⟨⟨(XZ _ hpx).dn,hbn⟩,⟨_,k6,rfl,k7 e⟩,(XZ _ hpx).free⟩,λt' gO Cp EM=> ?_,λf o' Cn EM=> ?_⟩
       ·have hs:=h'.slot t';rw [Cp] at hs;rcases hs.2.dn with ⟨_,u⟩|u
        ·exact u.2 (by rw [EM];exact adr)
        ·exact u.2 (by rw [EM];exact adr)
       ·obtain ⟨I',cells,g1,g2,g3,g4,g5⟩:=(h'.jO f o' Cn).row;rcases (g5 b EM).1 with ⟨_,u⟩|u
        ·exact u.2 adr
        ·exact u.2 adr
      simp only [cond_true,opK,k3,k4] at hK;obtain ⟨e2,eP,j1,j2,j3⟩:=ey tf lP hK;have ahO:vK ops (pl++(x',b)::pr) a=vK ops (pl++pr) (a.put o.dst (vOf b)):=by
       have wj: ∀p∈pl++pr,∀dd,wz ops p.1=some dd->o.dst≠some dd:=by
        intro p hp dd hdd;obtain ⟨q,hq,GP⟩:=ZR p (P4 p hp);have SO:p.1∈rest:=by
         rcases BY.1 (Ic p (P4 p hp)) with he|he
         ·exact absurd (acb.2 ⟨p,hp,he⟩) hxn
         ·exact he
        have:=aca.1 d4 p.1 SO;have hq':ops.toList[p.1]? =some q:=by simpa using hq
        simp only [hq',GP,cond_true,sh] at this;exact (II hq (.inl (Bb this.1)) dd hdd).2
       exact P2 (by simp [wz,hx]) a pr pl wj
      rw [ahO,<-j3];have hlen:(x'::rest).length-(pl++(x',b)::pr).length=rest.length-(pl++pr).length:=by simp only [abq,AS];omega
      rw [hlen];refine ihm rest (x'::pre) (pl++pr) l' listed e2 eP _ w ?_ j1 j2 (by rw [j3];exact ht) hpk d5 ?_ UM afW ?_ ?_ ?_ ?_ ?_
      ·simp only [abq,AS] at hm⊢;omega
      ·refine hL.congr (λi=> ?_);simp only [aef,aec,acp,BY];constructor
       ·rintro ((h1|h1|h1)|h1)
        ·exact .inl (.inl h1)
        ·exact .inr (.inl h1)
        ·exact .inl (.inr h1)
        ·exact .inr (.inr h1)
       ·rintro ((h1|h1)|h1|h1)
        ·exact .inl (.inl h1)
        ·exact .inl (.inr (.inr h1))
        ·exact .inl (.inr (.inl h1))
        ·exact .inr h1
      ·intro p hp;rcases BY.1 (Ic p (P4 p hp)) with he|he
       ·exact absurd (acb.2 ⟨p,hp,he⟩) hxn
       ·exact he
      ·have:((pl++(x',b)::pr).map (·.1)).Nodup:=KH;refine List.Nodup.sublist ?_ this;exact List.Sublist.map _ (agp (agT _ _) pl)
      ·have:((pl++(x',b)::pr).map (·.2)).Nodup:=GL;refine List.Nodup.sublist ?_ this;exact List.Sublist.map _ (agp (agT _ _) pl)
      ·intro p hp;obtain ⟨q1,q2,q3⟩:=XZ p (P4 p hp);exact ⟨q1,λoff=>by rw [j3];exact q2 off,q3⟩
      ·simp only [abq,AS] at hle⊢;omega
     ·have SO: ∀p∈pd,p.1∈rest:=λp hp=>by
       rcases BY.1 (Ic p hp) with he|he
       ·exact absurd (acb.2 ⟨p,hp,he⟩) hxp
       ·exact he
      have hlr:pd.length<=rest.length:=by have h1:(pd.map (·.1)).length<=rest.length:=Fc KH (λi hi=>by obtain ⟨p,hp,rfl⟩:=acb.1 hi;exact SO p hp);simpa using h1
      have akR:(x::rest).length-pd.length=(rest.length-pd.length)+1:=by simp only [abq];omega
      rw [akR];have hun:x∉pd.map (·.1)++pre:=by simp only [acp,not_or];exact ⟨hxp,afV⟩
      have Nv:x∈AT .any ops listed:=by refine mem_ready.2 ⟨(hL.Dl ahM).2 hun,o,hx,λed hed hb=> ?_⟩;have:=aca.1 d1 ed (by simpa using hed);simp only [wv,hb,Bool.not_true,Bool.false_or] at this;have hm:=(b4 _ _).1 this;exact (hL.done (ZQ _ hm)).2 (by simp [hm])
      have next: ∀(e':Env) (eP:St) (a':Act) (w':World),cF c (Z.outs (pd.map (·.2))) e' eP a' w'->Trans (Z.outs (pd.map (·.2))).In e.φ w e'.φ w'->BG c ops.toList l' eP K=some r->KP P c ops N e.φ (rest.length-pd.length) (listed.setIfInBounds x true) (vK ops pd a') w':=by
       intro e' eP a' w' h1 t1 sF;refine Ws t1.ph _ _ _ _ ?_;refine ihm rest (x::pre) pd l' _ e' eP a' w' ?_ h1 sF (ht.trans (t1.wide λb hb=>hb.1)) hpk d5 ((hL.set ahM).congr λi=> ?_) UM afW SO KH GL (λp hp=>(XZ p hp).later (acb.2 ⟨p,hp,rfl⟩) t1) hlr
       ·simp only [abq] at hm;omega
       ·simp only [BY,acp];constructor
        ·rintro (h1|h1|h1)
         ·exact .inr (.inl h1)
         ·exact .inl h1
         ·exact .inr (.inr h1)
        ·rintro (h1|h1|h1)
         ·exact .inr (.inl h1)
         ·exact .inl h1
         ·exact .inr (.inr h1)
      cases Ps:uz o&&!oS c o with
      |true=>
       simp only [Ps,cond_true] at d4;have wj: ∀p∈pd,∀dd,wz ops p.1=some dd->dd∉o.looksAt ops/\o.dst≠some dd:=by intro p hp;obtain ⟨q,hq,GP⟩:=ZR p hp;exact II hq (.inr (P3 rest [x] d4 p.1 (SO p hp) q hq GP))
       obtain ⟨hex,hwn⟩:=Gb afX a pd (λp hp d hd=>(wj p hp d hd).1);obtain ⟨D,D1,D2,D3,D4⟩:=KQ rest [x] d4 (λy hy dG=>absurd (by simpa using hy) dG);have si: ∀j oj,ops[j]? =some oj->j∉D->j≠x->listed.getD j true=false->o.apart ops oj=true/\(oL c o=true->still c o=false->xJ c o ops j=true):=by
        intro j oj hoj hjD hjx adl;have akS:j<ops.size:=(acD.1 hoj).1;have hjr:j∈rest:=by
         rcases UM j akS with h1|h1
         ·rcases BY.1 h1 with h1|h1
          ·exact absurd h1 hjx
          ·exact absurd (by simp [h1]) ((hL.Dl akS).1 adl)
         ·exact h1
        obtain ⟨p,hp1,RT,hp3⟩:=D4 j hjr hjD;rw [hoj] at hp1;cases hp1;exact ⟨RT,λhl hs=>by simp [xJ,hoj,hp3 hl hs]⟩
       have GQ: ∀d∈D,listed.getD d false=false:=by
        have aoP: ∀p∈pd,p.1∉D:=by intro p hp hpD;obtain ⟨q,hq,GP⟩:=ZR p hp;obtain ⟨ed,hed,hb,_⟩:=D3 p.1 q hpD (λhe=>hxp (acb.2 ⟨p,hp,he⟩)) hq;obtain ⟨_,_,_,_,_,dG⟩:=Bc GP;rw [dG ed hed] at hb;cases hb
        intro d hd;have hdn:d∉pd.map (·.1)++pre:=by
         simp only [acp,not_or];constructor
         ·intro hm;obtain ⟨p,hp,rfl⟩:=acb.1 hm;exact aoP p hp hd
         ·rcases D2 d hd with h1|h1
          ·have h1:d=x:=by simpa using h1
           rw [h1];exact afV
          ·exact λhp=>zQ rest (x::pre) d5 d h1 (by simp [hp])
        by_cases LQ:d<ops.size
        ·cases hg:listed.getD d false with
         |false=>rfl
         |true=>exact absurd ((hL.done LQ).1 hg) hdn
        ·have hl: ¬d<listed.size:=by rw [hL.size];exact LQ
         simp [hl]
       cases go with
       |true=>simp only [cond_true] at hK;obtain ⟨v,hv,e2,eP,k1,k2,k3⟩:=(SC (Q:=qi N) hG h' hK).aor (by simp only [sh] at Ps;exact Ps.1) (by simp only [sh,ace] at Ps;exact Ps.2);refine IH D3 hx P1 (rest.length-pd.length) listed _ w si GQ Nv (.inl ⟨by rw [hwn];exact hw,λw' hg=>by rw [hex];exact hv w' hg⟩) h.qe ?_;rw [Dm a o.dst v pd (λp hp d hd=>(wj p hp d hd).2)];exact next e2 eP _ w k1 k2 k3
       |false=>simp only [cond_false] at hK;obtain ⟨e2,eP,k1,k2,k3⟩:=ey (v:=undef) (s:= .skip) h' ⟨rfl,trivial⟩ hK;refine IH D3 hx P1 (rest.length-pd.length) listed _ w si GQ Nv (.inr ⟨by rw [hwn];exact hw,rfl⟩) h.qe ?_;rw [Dm a o.dst undef pd (λp hp d hd=>(wj p hp d hd).2)];exact next e2 eP _ w k1 (by rw [k3];exact .refl _ _ _) k2
      |false=>
       simp only [Ps,cond_false] at d4;have wj: ∀p∈pd,∀dd,wz ops p.1=some dd->dd∉o.looksAt ops/\o.dst≠some dd:=by
        intro p hp;obtain ⟨q,hq,GP⟩:=ZR p hp;have:=aca.1 d4 p.1 (SO p hp);have hq':ops.toList[p.1]? =some q:=by simpa using hq
        simp only [hq',GP,cond_true,sh] at this;exact II hq (.inl (Bb this.1))
       refine ⟨λhr0=>(by rw [hr0] at Nv;cases Nv),λi hi=> ?_⟩;obtain ⟨aoQ,oi,hoi,ahP⟩:=mem_ready.1 hi;have ahQ:i<ops.size:=(acD.1 hoi).1;have vG:=(hL.Dl ahQ).1 aoQ;simp only [acp,not_or] at vG;by_cases X4:i=x
       ·subst X4;rw [hx] at hoi;cases hoi;have tf:wpOp P ops (qi N) i (λa' w'=>(∀oi,xJ c oi ops i=true->ir c oi w w')/\ ∃e2 eP,cF c (Z.outs (pd.map (·.2))) e2 eP a' w'/\Trans (Z.outs (pd.map (·.2))).In e.φ w e2.φ w'/\BG c ops.toList l' eP K=some r) a w:=by
         unfold wpOp;simp only [hx];rw [hw];cases go with
         |true=>
          simp only [cond_true] at hK;simp only [if_true];left;have hd:=SC (Q:=qi N) hG h' hK;cases hgr:Yn c o with
          |true=>simp only [Yn,agX] at hgr;refine af2 ?_ (hd.aos hgr);rintro a' w' ⟨hg,e2,eP,k1,k2,k3⟩;exact ⟨λ_ _=>hg.for,e2,eP,k1,k2,k3⟩
          |false=>
           by_cases hme: ∃oi,BZ oi o=true
           ·obtain ⟨oi0,hme⟩:=hme;refine af2 ?_ (akk (Q:=qi N) hG h' hK hme);rintro a' w' ⟨hg,e2,eP,k1,k2,k3⟩;refine ⟨λoi hh=> ?_,e2,eP,k1,k2,k3⟩;have hoi:BZ oi o=true:=by simpa [xJ,hx,hgr] using hh
            exact SN hme hoi hg
           ·refine af2 ?_ hd.wp;rintro a' w' ⟨e2,eP,k1,k2,k3⟩;exact ⟨λoi hh=>absurd ⟨oi,by simpa [xJ,hx,hgr] using hh⟩ hme,e2,eP,k1,k2,k3⟩
         |false=>simp only [cond_false] at hK;simp only [By,if_false];obtain ⟨e2,eP,k1,k2,k3⟩:=ey (v:=undef) (s:= .skip) h' ⟨rfl,trivial⟩ hK;exact ⟨λ_ _=>(eI.refl w).for,e2,eP,k1,by rw [k3];exact .refl _ _ _,k2⟩
        refine wpOp_mono ?_ (UL hx afX tf pd wj);rintro a' w' ⟨a2,rfl,hg,e2,eP,k1,k2,k3⟩;exact ⟨⟨hg,λb o v hv=>k1.qe b o v (k2.ph b o v hv)⟩,next e2 eP a2 w' k1 k2 k3⟩
       ·have hir:i∈rest:=by
         rcases UM i ahQ with h1|h1
         ·rcases BY.1 h1 with h1|h1
          ·exact absurd h1 X4
          ·exact absurd h1 vG.2
         ·exact h1
        have SP:=aca.1 d4 i hir;have aoS:ops.toList[i]? =some oi:=by simpa using hoi
        simp only [aoS] at SP;cases GP:Pn oi with
        |false=>
         exfalso;simp only [GP,cond_false] at SP;unfold Ck at SP;obtain ⟨ed,hed,hb⟩:=afs.1 SP;simp only [sh,wv,agX,ace] at hb;obtain ⟨vZ,vF⟩:=hb;have LY:=ahP ed (by simpa using hed) vZ;have Hl:ed.on∉pd.map (·.1)++pre:=by
          rcases vF with vF|⟨vF,hb3⟩
          ·rw [IT vF];exact hun
          ·simp only [acp,not_or];refine ⟨λhm=> ?_,λhp=>zQ rest (x::pre) d5 _ ((b4 _ _).1 vF) (by simp [hp])⟩;obtain ⟨p,hp,he⟩:=acb.1 hm;obtain ⟨q,hq,hqa⟩:=ZR p hp;have hq':ops.toList[ed.on]? =some q:=by rw [<-he];simpa using hq
           simp [ajF,hq',hqa] at hb3
         by_cases vE:ed.on<ops.size
         ·exact Hl ((hL.done vE).1 LY)
         ·have:listed.getD ed.on false=false:=by
           have hl: ¬ed.on<listed.size:=by rw [hL.size];exact vE
           simp [hl]
          rw [this] at LY;cases LY
        |true=>
         obtain ⟨t,d,q1,q2,q3,q4⟩:=Bc GP;have hI: ∃I,c.tv t=some I:=by
          simp only [GP,cond_true,sh,ajE,q1] at SP;cases htv:c.tv t with
          |none=>rw [htv] at SP;exact absurd SP.2 (by simp)
          |some I=>exact ⟨I,rfl⟩
         obtain ⟨I,hI⟩:=hI;obtain ⟨inf,z,hz1,YC,hz3⟩:=Cy hI hG.ti;have hg:eI w (w.alloc (.cells z.cells t)):= .alloc w _ _;unfold wpOp;simp only [hoi];have hwn:aaq oi (yielded ops (vK ops pd a).tmps)=true:=by simp [aaq,q3]
         simp only [hwn,if_true];left;have cB:(execOp (vK ops pd a).eval oi).run P w= .ok (.value (vOf w.heap.size)) (w.alloc (.cells z.cells t)):=by simp [execOp,q1,Instr.alloc,zeroValue,typeInfo,hz1,YC,newVar,newRow,newObj,Sem.run,vOf]
         unfold af1;rw [cB];simp only [af5];refine ⟨⟨λ_ _=>hg.for,(h.grow hg).qe⟩,?_⟩;have we:w.heap.size<(w.alloc (.cells z.cells t)).heap.size:=by simp
         have aoT: ∀p∈pd,p.2<w.heap.size:=λp hp=>by obtain ⟨_,_,_,_,_,_,_,_,_,_,_,k6,_⟩:=(XZ p hp).row;exact bW k6
         have ahO:(vK ops pd a).put oi.dst (vOf w.heap.size)=vK ops ((i,w.heap.size)::pd) a:=by simp [vK,wz,hoi]
         rw [ahO];have dY:pd.length<rest.length:=by
          have h1:(i::pd.map (·.1)).length<=rest.length:=by
           refine Fc (adA.2 ⟨vG.1,KH⟩) ?_;intro j hj;rcases BY.1 hj with rfl|hj
           ·exact hir
           ·obtain ⟨p,hp,rfl⟩:=acb.1 hj;exact SO p hp
          simp only [abq,afO] at h1;omega
         have B5:rest.length-pd.length=(x::rest).length-((i,w.heap.size)::pd).length:=by simp only [abq];omega
         rw [B5];refine ihm (x::rest) pre ((i,w.heap.size)::pd) (o::l') _ e st a _ ?_ (h.narrow hg we) ?_ (ht.trans (hg.trans (λb hb=>(h.dn b hb).1) _)) ?_ hd0 ?_ nm ZQ ?_ ?_ ?_ ?_ ?_
         ·simp only [abq] at hm⊢;omega
         ·exact ahN
         ·simp [qF,hox,hpk]
         ·refine (hL.set ahQ).congr (λj=> ?_);simp
         ·intro p hp;rcases BY.1 hp with rfl|hp
          ·exact List.mem_cons_of_mem _ hir
          ·exact Ic p hp
         ·exact adA.2 ⟨vG.1,KH⟩
         ·refine adA.2 ⟨λhm=> ?_,GL⟩;obtain ⟨p,hp,he⟩:=acb.1 hm;have:=aoT p hp;have he:p.2=w.heap.size:=he;omega
         ·intro p hp;rcases BY.1 hp with rfl|hp
          ·refine ⟨⟨oi,t,I,d,z.cells,t,hoi,GP,q1,hI,q2,nF w _,hz3⟩,λoff=> ?_,(h.dn _ (OF _)).1⟩;cases hp:e.φ w.heap.size off with
           |none=>rfl
           |some v=>have:=ab4 w _ (h.qe _ _ _ hp);simp at this
          ·obtain ⟨⟨o1,t1,I1,d1,aoU,T1,k1,k2,k3,k4,k5,k6,k7⟩,q5,q6⟩:=XZ p hp;exact ⟨⟨o1,t1,I1,d1,aoU,T1,k1,k2,k3,k4,k5,by rw [hg.A0 _ (bW k6)];exact k6,k7⟩,q5,q6⟩
         ·simp only [abq];omega
theorem P5 (hG:Good P c){ops:Array Oper}{l:List Oper}{ord:List Nat}(hd:Cl c ops ord=true)(hp:qF ops.toList ord=some l){Z:b7}{e:Env}{st:St}{a:Act}{w:World}{R:Type}{K:St->Option R}{r:R}(h:cF c Z e st a w)(hK:BG c ops.toList l st K=some r): wpAny P .any ops (qi λa' w'=>Out c Z K r e.φ w a' w') ops.size (IS ops.size false) a {w with drawn:=w.drawn+1}:=by
 simp only [Cl,sh] at hd;obtain ⟨⟨⟨hns,hl0⟩,nm⟩,hd⟩:=hd;have P1: ∀(j:Nat) (o:Oper) cs b,ops[j]? =some o->o.op≠ .select cs b:=by intro j o cs b ho he;have:=aca.1 hns o (ahc (by simpa using ho:ops.toList[j]? =some o));simp [he] at this
 have afY:eI w {w with drawn:=w.drawn+1}:=⟨OF _,λ_ _=>rfl,rfl,rfl,rfl,λ_=>rfl⟩
 ·refine ZL (c:=c) (φ:=e.φ) _ _ _ _ ?_;have hlen:ord.length=ops.size:=by have:=IT hl0;simpa using this
  rw [<-hlen];have h0:cF c (Z.outs []) e st a {w with drawn:=w.drawn+1}:=(h.grow afY).Ga (λb hb=>⟨hb,by simp⟩) (λb hb=>⟨hb,by simp⟩) rfl rfl rfl rfl;refine adq hG P1 (λa' w' h=>h) (2 *ord.length) ord [] [] l _ e st a _ (by simp) h0 hK (afY.trans h.dn e.φ) hp hd ⟨by simp [hlen],λi hi=> ?_⟩ (λi hi=> .inr ((b4 _ _).1 (aca.1 nm i (by simpa using hi)))) (by simp) (by simp) (by simp) (by simp) (by simp) (by simp);simp [hlen,hi]
end
end Dn
/-
  What is asked of slices.DeleteFunc, and of the function that it is handed. Conditions: none.
-/
namespace Dn
open Go
theorem Gc {S:Type}{step:S->MV->Option (Bool×S)}: ∀{xs zs:List MV}{s:S},nk step s (xs++zs)=(match nk step s xs with|some (ys,s1)=>(match nk step s1 zs with|some (us,s2)=>some (ys++us,s2)|none=>none)|none=>none):=by
 intro xs;induction xs with
 |nil=>intro zs s;simp only [afH,nk];cases nk step s zs<;>rfl
 |cons x xs ih=>
  intro zs s;simp only [afv,nk];cases step s x with
  |none=>rfl
  |some p=>
   obtain ⟨b,s1⟩:=p;simp only [ih];cases nk step s1 xs with
   |none=>rfl
   |some q=>
    obtain ⟨ys,s2⟩:=q;dsimp only;cases nk step s2 zs with
    |none=>rfl
    |some q2=>cases b<;>rfl
theorem UN {S:Type}{step:S->MV->Option (Bool×S)}{xs:List MV} {s s':S}{ys:List MV}(h:nk step s xs=some (ys,s')){k:Nat}(hk:k<xs.length): ∃yk sk b sk',nk step s (xs.take k)=some (yk,sk)/\step sk xs[k]=some (b,sk')/\nk step s (xs.take (k+1))=some (bif b then yk else yk++[xs[k]],sk'):=by
 have e:xs=xs.take k++xs[k]::xs.drop (k+1):=by simp
 rw [e,Gc] at h;cases h1:nk step s (xs.take k) with
 |none=>simp [h1] at h
 |some p=>
  obtain ⟨yk,sk⟩:=p;simp only [h1,nk] at h;cases h2:step sk xs[k] with
  |none=>simp [h2] at h
  |some q=>
   obtain ⟨b,sk'⟩:=q;refine ⟨yk,sk,b,sk',rfl,h2,?_⟩;have e2:xs.take (k+1)=xs.take k++[xs[k]]:=by rw [ahE,abr hk];rfl
   rw [e2,Gc,h1];simp only [nk,h2];cases b<;>simp
theorem ZS {S:Type}{step:S->MV->Option (Bool×S)}: ∀{xs:List MV} {s s':S}{ys:List MV},nk step s xs=some (ys,s')->ys.length<=xs.length:=by
 intro xs;induction xs with
 |nil=>intro s s' ys h;simp [nk] at h;simp [h.1]
 |cons x xs ih=>
  intro s s' ys h;simp only [nk] at h;cases h1:step s x with
  |none=>simp [h1] at h
  |some p=>
   obtain ⟨b,s1⟩:=p;simp only [h1] at h;cases h2:nk step s1 xs with
   |none=>simp [h2] at h
   |some q=>obtain ⟨zs,s2⟩:=q;simp only [h2,IN,acs] at h;have:=ih h2;rw [<-h.1];cases b<;>simp<;>omega
structure xK (P:Program) (c:Ctx) (g:Nat) (lb:Array Value) {S:Type} (Inv:S->(Nat->Prop)->Ph->World->Prop) (step:S->MV->Option (Bool×S)):Prop where
 call: ∀{s Z φ W v x b s'},Inv s Z φ W->(∀b,W.heap.size<=b->Z b)->B6 φ W->gf c.key φ v x->step s x=some (b,s')-> ia P g (#[v]++lb) W λr W'=>r= .bool b/\ ∃φ',Trans Z φ W φ' W'/\B6 φ' W'/\Inv s' Z φ' W'
 frame: ∀{s Z φ W W'},Inv s Z φ W->W.heap.size<=W'.heap.size->(∀b,Z b->b<W.heap.size->W'.heap[b]? =W.heap[b]?)->Inv s (λb=>Z b/\b<W.heap.size) φ W'
 mono: ∀{s Z Z' φ W},Inv s Z φ W->(∀b,Z b->Z' b)->Inv s Z' φ W
structure BL (c:Ctx) (ob:Option Nat) {S:Type} (Inv:S->(Nat->Prop)->Ph->World->Prop) (Z0:Nat->Prop) (φ0:Ph) (w0:World) (s:S) (Z:Nat->Prop) (φ:Ph) (W:World):Prop where
 inv:Inv s Z φ W
 new: ∀b,W.heap.size<=b->Z b
 sub: ∀b,Z b->Z0 b\/w0.heap.size<=b
 qe:B6 φ W
 tr:Trans (λb=>(Z0 b\/w0.heap.size<=b)\/ob=some b) φ0 w0 φ W
 free: ∀b off,ob=some b->φ b off=none
structure Nw (P:Program) (c:Ctx) (h el:Nat):Prop where
 run: ∀{S:Type} {Inv:S->(Nat->Prop)->Ph->World->Prop} {step:S->MV->Option (Bool×S)} {g:Nat} {lb:Array Value},xK P c g lb Inv step-> ∀{v0:Value} {xs ys:List MV} {w:World} {Z0:Nat->Prop} {φ0:Ph} {s0 s':S},(∀x∈xs,∃ms,x= .agg ms)->dI c (b7.plain λb=>v0.ownBlock=some b) (qg c.key φ0) w v0 ⟨el,false,xs⟩->(∀b,v0.ownBlock=some b-> ¬Z0 b)-> Inv s0 Z0 φ0 w->(∀b,w.heap.size<=b->Z0 b)->B6 φ0 w->nk step s0 xs=some (ys,s')-> ia P h #[v0,.func (.func g) #[] lb] w λv W=> ∃Z φ,BL c v0.ownBlock Inv Z0 φ0 w s' Z φ W/\dI c (b7.plain λb=>v0.ownBlock=some b) (qg c.key φ) W v ⟨el,false,ys⟩/\ ∀b,v.ownBlock=some b->v0.ownBlock=some b
def xL (P:Program)(c:Ctx):Prop:= ∀h,c.MY h=true->Nw P c h (c.sw (c.key h))
end Dn
/-
  Regions with a call of slices.DeleteFunc. Conditions: none.
-/
namespace Dn
open Go
section
variable {P:Program}{c:Ctx}{Z:b7} {Z':Nat->Prop} {e e':Env}{st cP:St}{a:Act} {w w':World}{R:Type}{K:St->Option R}{r:R}{Q:Exit->Act->World->Prop}{o:Oper}{root:Nat}{cs:List aR}{ks:List LK}{ls outs:List MV}{ps:List (Nat×Nat)} {φ':Ph}
theorem Wv (h:cF c Z e st a w)(hf:au st.fr root= .box cs)(hm:fR cs=false)(hr:bU st.dg root=false)(ht:TC st [] ks cs ls ps)(hZ: ∀b,Z' b↔w.heap.size<=b\/gone e root ps b){X:Nat->Prop}(hXb: ∀t gO,au st.fr t= .box gO-> ¬X (e.B t))(hXf: ∀f o b,aU st.bh f=some o->(e.E f).ownBlock=some b-> ¬X b)(yQ:Trans (λb=>Z' b\/X b) e.φ w φ' w')(hi:B6 φ' w')(hc:oX c Z' φ' w' (e.B root) ks outs)(hK:Lp st root ks ps outs K=some r): ∃e' cP,cF c Z e' cP a w'/\e'.φ=φ'/\(∀b,X b-> ¬Z' b->(∀t gO,au cP.fr t= .box gO->e'.B t≠b)/\ ∀f o,aU cP.bh f=some o->(e'.E f).ownBlock≠some b)/\K cP=some r:=by
 unfold Lp at hK;obtain ⟨mQ,rest,AW,g1,hK⟩:=kn hK;cases rest with
 |cons=>simp [gN] at hK
 |nil=>
 simp only [gN,PL] at hK;cases mS:Lo (bL ks) (kT (e9 ps) st.bh)||meets (bL ks) st.cZ with
 |true=>simp [mS] at hK
 |false=>
 simp only [mS,cond_false,UA,nG,xu] at hK;obtain ⟨SA,Ir⟩:=ahd.1 mS;have SA:=Io SA;have Ir:=Ip Ir;obtain ⟨mE,m3,E,arr,T,zN,dB,hzb,si,rT,iM,fJ⟩:=hc;have oM:mE=mQ/\m3=AW.bh:=by unfold Ux at zN;rw [g1] at zN;simp only [gN,IN,acs] at zN;exact ⟨zN.1.symm,zN.2.symm⟩
 obtain ⟨rfl,rfl⟩:=oM;have eS:=zM g1;have gn: ∀f o,aU AW.bh f=some o->f∈bL ks:=λf o ho=>(Dg g1 f o ho).resolve_left (by simp [aU]);have hs:=h.slot root;rw [hf] at hs;have vG: ∀b,Z' b->Z.In b:=by
  intro b hb;rcases (hZ b).1 hb with hb|hb
  ·exact h.dn b hb
  ·exact Dh h hf hr ht b hb
 have PO: ∀t gO,au st.fr t= .box gO->t≠root-> ¬Z' (e.B t):=by
  intro t gO Zd dG hz;rcases (hZ _).1 hz with hz|hz|⟨x,g,hp,hz⟩
  ·have:=xD h Zd;omega
  ·exact h.bb t root gO cs Zd hf dG hz
  ·obtain ⟨o,ho,_⟩:=ht.bh x g hp;exact h.bf t gO g o Zd ho hz
 have hold: ∀f o,aU (kT (e9 ps) st.bh) f=some o->aU st.bh f=some o/\f∉e9 ps:=by
  intro f o ho;rw [Ij] at ho;cases hn:bU (e9 ps) f with
  |true=>simp [hn] at ho
  |false=>simp only [hn,By,if_false] at ho;exact ⟨ho,λhm=>by rw [(b4 _ _).2 hm] at hn;cases hn⟩
 have F3: ∀f o b,aU (kT (e9 ps) st.bh) f=some o->(e.E f).ownBlock=some b-> ¬Z' b:=by
  intro f o b ho hb hz;obtain ⟨Cn,hnf⟩:=hold f o ho;rcases (hZ _).1 hz with hz|hz|⟨x,g,hp,hz⟩
  ·have:=xF h Cn hb;omega
  ·exact h.bf root cs f o hf Cn (by rw [hb,hz])
  ·obtain ⟨o2,dh,_⟩:=ht.bh x g hp;have:=h.ff f g o o2 b Cn dh hb hz;subst this;exact hnf (FZ.2 ⟨x,hp⟩)
 have ahR: ∀t gO,au st.fr t= .box gO->t≠root-> ¬(Z' (e.B t)\/X (e.B t)):=λt gO h1 h2 h3=>h3.elim (PO t gO h1 h2) (hXb t gO h1);have ZT: ∀f o b,aU (kT (e9 ps) st.bh) f=some o->(e.E f).ownBlock=some b-> ¬(Z' b\/X b):=λf o b h1 h2 h3=>h3.elim (F3 f o b h1 h2) (hXf f o b (hold f o h1).1 h2);let E2:Nat->Value:=λf=>if bU (bL ks) f=true then E f else e.E f
 have zv: ∀f,f∈bL ks->E2 f=E f:=λf hf=>by show (if _ then _ else _)=_;rw [if_pos ((b4 _ _).2 hf)]
 have O1: ∀f,f∉bL ks->E2 f=e.E f:=λf hf=>by show (if _ then _ else _)=_;rw [if_neg (λhq=>hf ((b4 _ _).1 hq))]
 have na: ∀f o,aU (AW.bh++kT (e9 ps) st.bh) f=some o->(f∈bL ks/\aU AW.bh f=some o)\/(f∉bL ks/\aU (kT (e9 ps) st.bh) f=some o):=by
  intro f o ho;rw [LI] at ho;cases hq:aU AW.bh f with
  |some o2=>simp only [hq,IN] at ho;exact .inl ⟨gn f o2 hq,by rw [ho]⟩
  |none=>simp only [hq] at ho;refine .inr ⟨λhm=> ?_,ho⟩;rw [SA f hm] at ho;cases ho
 let e2:Env:=⟨e.key,φ',E2,e.B,AW.bh++kT (e9 ps) st.bh⟩
 have vE:lB (λg=>True/\g∉bL ks) (λ_=>True) e e2:=by
  refine ⟨rfl,yQ.ph,λ_ _=>rfl,λf o' Cn hS=> ?_⟩;rcases na f o' Cn with ⟨h1,_⟩|⟨h1,h2⟩
  ·exact absurd h1 hS.2
  ·exact ⟨o',by rw [h.m];exact (hold f o' h2).1,O1 f h1,rfl⟩
 have Ze:aJ e2 arr.toList mE:=by
  have ahl:lB (λf=>f∈bL ks) (λ_=>True) ⟨c.key,φ',E,λ_=>e.B root,AW.bh⟩ ⟨c.key,φ',E2,λ_=>e.B root,AW.bh++kT (e9 ps) st.bh⟩:=by
   refine ⟨rfl,.refl _,λ_ _=>rfl,λf o' Cn hS=> ?_⟩;rcases na f o' Cn with ⟨h1,h2⟩|⟨h1,_⟩
   ·exact ⟨o',h2,zv f h1,rfl⟩
   ·exact absurd hS h1
  have h1:=rT.on ahl eS;have ahm:lB (λ_=>True) (λ_=>False) ⟨c.key,φ',E2,λ_=>e.B root,AW.bh++kT (e9 ps) st.bh⟩ e2:=⟨h.key,.refl _,λ_ h=>h.elim,λf o ho _=>⟨o,ho,rfl,rfl⟩⟩
  exact h1.on ahm (λ_ _ _ _=>trivial)
 have hm3:fR mE=false:=Ze.B2;have Nl: ∀t,au (cM (np (bL ks) st.fr) root (.box mE)) t=if t=root then .box mE else Df (bL ks) (au st.fr t):=λt=>by rw [ck,Ik]
 have vI: ∀t ds,au (cM (np (bL ks) st.fr) root (.box mE)) t= .box ds-> ∃ds0,au st.fr t= .box ds0:=by
  intro t ds hb;rw [Nl] at hb;by_cases yQ:t=root
  ·exact ⟨cs,by rw [yQ];exact hf⟩
  ·rw [if_neg yQ] at hb;obtain ⟨d0,h1,_⟩:=uU _ hb;exact ⟨d0,h1⟩
 refine ⟨e2,⟨st.dg,st.cZ,cM (np (bL ks) st.fr) root (.box mE),AW.bh++kT (e9 ps) st.bh⟩,⟨h.defers,h.size,rfl,h.key,?_,?_,?_,?_,?_,?_,?_,hi,λb hb=>h.dn b (acT yQ.size hb)⟩,rfl,λb hb hnz=>⟨λt ds Zd he=> ?_,λf o ho he=> ?_⟩,hK⟩;rotate_left 7
 ·obtain ⟨d0,k1⟩:=vI t ds Zd;exact hXb t d0 k1 (by have he:e.B t=b:=he;rw [he];exact hb)
 ·have he:(E2 f).ownBlock=some b:=he;rcases na f o ho with ⟨k1,k2⟩|⟨k1,k2⟩
  ·rw [zv f k1] at he;obtain ⟨I,cells,_,_,_,_,q5⟩:=(iM f o k2).1.row;exact hnz (q5 _ he).1
  ·rw [O1 f k1] at he;exact hXf f o b (hold f o k2).1 he hb
 ·show (a7 (cM (np (bL ks) st.fr) root (.box mE))).Nodup;refine fG ?_;rw [Il];exact h.nodup
 ·intro t;show cu Z e2 w' t _ (au (cM (np (bL ks) st.fr) root (.box mE)) t);rw [Nl];by_cases th:t=root
  ·subst th;rw [if_pos rfl];exact ⟨hs.1.mB (by rw [xx hm,xx hm3]),hs.2.dn,⟨_,dB,rfl,Ze⟩,si⟩
  ·rw [if_neg th];have eR:=h.slot t;have hnb:=ahR t;generalize au st.fr t=s at eR hnb;by_cases E0: ∃ds,s= .box ds
   ·obtain ⟨ds,rfl⟩:=E0;rw [PM];have hz:=hnb ds rfl th;obtain ⟨o2,h1,h2⟩:=eR.2.obj;refine ⟨eR.1.mB (LH _ _),eR.2.dn,⟨o2,by show w'.heap[e.B t]? =_;rw [yQ.heap _ hz (bW h1)];exact h1,?_⟩,λoff=>by show φ' (e.B t) off=none;rw [yQ.free _ off hz];exact eR.2.free off⟩;exact (PN h2).on vE (UC _ (λl _ f _=>trivial))
   ·have ahn:af e (a.tmps.getD t undef) s:=by cases s<;>simp only [cu] at eR<;>first|exact eR|exact absurd ⟨_,rfl⟩ E0
    have h2:=(ahn.afK (bL ks)).on vE (UB _ (ez s));have Zf: ∀ds,Df (bL ks) s≠ .box ds:=λds hq=>by obtain ⟨d0,h1,_⟩:=uU _ hq;exact E0 ⟨d0,h1⟩
    generalize Df (bL ks) s=s2 at h2 Zf;cases s2<;>first|exact h2|exact absurd rfl (Zf _)
 ·intro t;show c8 (cM (np (bL ks) st.fr) root (.box mE)) (au (cM (np (bL ks) st.fr) root (.box mE)) t);have YZ: ∀q,dx (au st.fr q)=true->dx (au (cM (np (bL ks) st.fr) root (.box mE)) q)=true:=by
   intro q hq;rw [Nl];by_cases hqr:q=root
   ·rw [if_pos hqr];rfl
   ·rw [if_neg hqr];exact Iq _ hq
  rw [Nl];by_cases th:t=root
  ·rw [if_pos th];trivial
  ·rw [if_neg th];refine F1 _ ?_;have qG:=h.root t;generalize au st.fr t=s at qG;cases s with
   |ptr q o=>exact YZ q qG
   |hp q o i=>exact YZ q qG
   |zA q=>exact YZ q qG
   |_=>trivial
 ·intro f o ho;rcases na f o ho with ⟨h1,h2⟩|⟨h1,h2⟩
  ·have hfm:=(iM f o h2).1;have Cr:f∉Z.cZ:=by rw [<-h.defers.2.2.1];exact Ir f h1
   refine dI.to ?_ Cr;obtain ⟨I,cells,q1,q2,q3,q4,q5⟩:=hfm.row;refine ⟨I,cells,q1,q2,?_,?_,λb hb=> ?_⟩
   ·show w'.ownsRow 0 o.ty I.size (E2 f) o.xs.length cells;rw [zv f h1];exact q3
   ·show bx e.key φ' I.size cells o.xs;rw [h.key];exact q4
   ·have hb:(E2 f).ownBlock=some b:=hb;rw [zv f h1] at hb;exact ⟨vG b (q5 b hb).1,(q5 b hb).2.1,λhc=>hc.elim⟩
  ·obtain ⟨Cn,hnf⟩:=hold f o h2;obtain ⟨I,cells,q1,q2,q3,q4,q5⟩:=(h.jO f o Cn).row;refine ⟨I,cells,q1,q2,?_,q4.mono yQ.ph,?_⟩
   ·show w'.ownsRow 0 o.ty I.size (E2 f) o.xs.length cells;rw [O1 f h1];refine ⟨q3.1,?_⟩;rcases q3.2 with h6|⟨g,cap,dM,k1,k2,k3,k4⟩
    ·exact .inl h6
    ·refine .inr ⟨g,cap,dM,k1,k2,?_,k4⟩;rw [yQ.heap g (ZT f o g h2 (by rw [k1];rfl)) (bW k3)];exact k3
   ·intro bG hb;have hb:(E2 f).ownBlock=some bG:=hb;rw [O1 f h1] at hb;refine ⟨(q5 bG hb).1,λoff u hu=>(q5 bG hb).2.1 off u ?_,λk1 k2 j hj=>yQ.ph.AY ((q5 bG hb).2.2 k1 k2 j hj) hj⟩;have hu:φ' bG off=some u:=hu;rw [yQ.free _ off (ZT f o bG h2 hb)] at hu;exact hu
 ·intro t t' c1 c2 h1 h2 dG;obtain ⟨d1,k1⟩:=vI t c1 h1;obtain ⟨d2,k2⟩:=vI t' c2 h2;exact h.bb t t' d1 d2 k1 k2 dG
 ·intro t c1 f o h1 h2;show (E2 f).ownBlock≠some (e.B t);rcases na f o h2 with ⟨k1,k2⟩|⟨k1,k2⟩
  ·rw [zv f k1];by_cases th:t=root
   ·rw [th];exact (iM f o k2).2
   ·obtain ⟨d1,k3⟩:=vI t c1 h1;intro hq;obtain ⟨I,cells,_,_,_,_,q5⟩:=(iM f o k2).1.row;exact PO t d1 k3 th (q5 _ hq).1
  ·rw [O1 f k1];obtain ⟨d1,k3⟩:=vI t c1 h1;exact h.bf t d1 f o k3 (hold f o k2).1
 ·intro f f' o o' k h1 h2 h3 h4;have h3:(E2 f).ownBlock=some k:=h3;have h4:(E2 f').ownBlock=some k:=h4;rcases na f o h1 with ⟨k1,k2⟩|⟨k1,k2⟩<;>rcases na f' o' h2 with ⟨k3,k4⟩|⟨k3,k4⟩
  ·rw [zv f k1] at h3;rw [zv f' k3] at h4;exact fJ f f' o o' k k2 k4 h3 h4
  ·rw [zv f k1] at h3;rw [O1 f' k3] at h4;obtain ⟨I,cells,_,_,_,_,q5⟩:=(iM f o k2).1.row;exact absurd (q5 _ h3).1 (F3 f' o' k k4 h4)
  ·rw [O1 f k1] at h3;rw [zv f' k3] at h4;obtain ⟨I,cells,_,_,_,_,q5⟩:=(iM f' o' k4).1.row;exact absurd (q5 _ h4).1 (F3 f o k k2 h3)
  ·rw [O1 f k1] at h3;rw [O1 f' k3] at h4;exact h.ff f f' o o' k (hold f o k2).1 (hold f' o' k4).1 h3 h4
end
end Dn
/-
  A call of slices.DeleteFunc. Conditions: none.
-/
namespace Dn
open Go
section
variable {P:Program}{c:Ctx}{Z:b7} {e e':Env}{st cP:St}{a:Act} {w w':World}{R:Type}{K:St->Option R}{r:R}{Q:Exit->Act->World->Prop}{o:Oper}
theorem ia.imp {P:Program}{f:FuncId}{args:Array Value}{w:World} {R R':Value->World->Prop}(hc:ia P f args w R)(h: ∀v w',R v w'->R' v w'):ia P f args w R':=by
 unfold ia at hc⊢;split
 ·rename_i oM;rw [oM] at hc;exact Calls.mono hc (λx AZ ⟨v,e,hr⟩=>⟨v,e,h v AZ hr⟩)
 ·rename_i oM;rw [oM] at hc;exact h _ _ hc
 ·rename_i h1 h2;split at hc
  ·rename_i oM;exact absurd oM (h1 _ _ _)
  ·rename_i oM;exact absurd oM (h2 _ _)
  ·exact hc
theorem Trans.Ga {I J:Nat->Prop} {φ φ':Ph}(h:Trans I φ w φ' w')(hs: ∀b,I b->J b):Trans J φ w φ' w':=⟨h.ph,λb hb=>h.heap b (λhz=>hb (hs b hz)),λb o hb=>h.free b o (λhz=>hb (hs b hz)),h.size,h.rest⟩
theorem P6 {key:Nat->Nat} {φ:Ph}{v:Value}{b:Bool}(h:gf key φ v (.b b)):v= .bool b:=by obtain ⟨_,h⟩:=h;generalize B1:[v]=l at h;cases h;simpa using B1
theorem SQ (hS:Sound P c){f:Nat}(hg:c.fj (c.key f)=false){lb:Array Value}{ms:List MV}:xK P c f lb (λ(_:Unit)(_:Nat->Prop) φ (_:World)=>cN c.key φ lb.toList ms) (Yo c.g (c.key f) ms):=by
 refine ⟨?_,λh _ _=>h,λh _=>h⟩;intro s Z φ W v x b s' hinv lP ki SR eR;unfold Yo at eR;split at eR
 ·rename_i b' hx;simp only [IN,acs] at eR;obtain ⟨rfl,_⟩:=eR;have gm:fS c (λb=>W.heap.size<=b) φ W (c.key f) (v::lb.toList) (x::ms):=by simp only [fS,hg,By,if_false];exact ⟨v,lb.toList,rfl,SR,hinv⟩
  have:=hS f (x::ms) (.b b') hx φ W (λb=>W.heap.size<=b) _ (λb hb=>hb) gm ki;have e1:(v::lb.toList).toArray= #[v]++lb:=by apply adn.1;simp
  rw [e1] at this;refine this.imp ?_;rintro v' w' ⟨φ',t1,t2,t3⟩;exact ⟨P6 t3,φ',t1.Ga lP,t2,hinv.mono t1.ph⟩
 ·cases eR
theorem Ww (hS:Sound P c){f pos bG:Nat}{ks:List LK}{ms:List MV}{lb0:List Value}(hg:c.fj (c.key f)=true)(BK:c.sig (c.key f)=some (pos,ks))(fm:pos=ms.length+1): xK P c f (lb0++[afy (some ⟨bG,0,none⟩)]).toArray (λls Z φ W=>oX c Z φ W bG ks ls/\cN c.key φ lb0 ms) (Lr c.g (c.key f) ms):=by
 refine ⟨?_,?_,λh hz=>⟨h.1.wide hz,h.2⟩⟩
 ·intro ls Z φ W v x b s' hinv lP ki SR eR;obtain ⟨uQ,wu⟩:=hinv;unfold Lr at eR;split at eR
  ·rename_i b' outs hx;simp only [IN,acs] at eR;obtain ⟨rfl,rfl⟩:=eR;have hl:=wu.length;have gm:fS c Z φ W (c.key f) (v::(lb0++[afy (some ⟨bG,0,none⟩)])) (x::(ms++[.cell (.func 0 ls)])):=by
    simp only [fS,hg,if_true];refine .inr (.inr ⟨pos,ks,0,ls,bG,BK,?_,?_,?_,uQ⟩)
    ·rw [fm,aek,<-hl,ab9 (OF _)];simp
    ·rw [fm,aek,ab9 (OF _)];simp
    ·rw [fm,List.set_cons_succ,List.set_append_right _ _ (OF _),Nat.sub_self];exact ⟨v,_,rfl,SR,wu.append ⟨_,[],rfl,⟨rfl,.rp bG 0 [] [] .nil (by simp)⟩,rfl⟩⟩
   have:=hS f _ _ hx φ W Z _ lP gm ki;have e1:(v::(lb0++[afy (some ⟨bG,0,none⟩)])).toArray= #[v]++(lb0++[afy (some ⟨bG,0,none⟩)]).toArray:=by apply adn.1;simp
   rw [e1] at this;refine this.imp ?_;rintro v' w' ⟨φ',t1,t2,zO,pos',ks',aoV,VQ,A4,XU,hc⟩;rw [BK] at A4;simp only [IN,acs] at A4;obtain ⟨rfl,rfl⟩:=A4;have hb:aoV=bG:=by rw [fm,aek,<-hl,ab9 (OF _)] at XU;simp at XU;exact XU.1.symm
   subst hb;exact ⟨P6 zO,φ',t1,t2,hc,wu.mono t1.ph⟩
  ·cases eR
 ·intro ls Z φ W W' hinv we zK;obtain ⟨⟨cs,m,E,arr,T,k1,k2,k3,k4,k5,k6,k7⟩,wu⟩:=hinv;have dY:=bW k2;refine ⟨⟨cs,m,E,arr,T,k1,(zK bG k3 dY).trans k2,⟨k3,dY⟩,k4,k5,λf' o' ho=>⟨?_,(k6 f' o' ho).2⟩,k7⟩,wu⟩;obtain ⟨I,cells,q1,q2,q3,q4,q5⟩:=(k6 f' o' ho).1.row;refine ⟨I,cells,q1,q2,⟨q3.1,?_⟩,q4,λb hb=>⟨⟨(q5 b hb).1,Nh q3 hb⟩,(q5 b hb).2⟩⟩;rcases q3.2 with h6|⟨g,cap,dM,r1,r2,r3,r4⟩
  ·exact .inl h6
  ·exact .inr ⟨g,cap,dM,r1,r2,(zK g (q5 g (by rw [r1];rfl)).1 (bW r3)).trans r3,r4⟩
theorem UO {xs:List MV}(h:xs.all R7=true): ∀x∈xs,∃ms,x= .agg ms:=by intro x hx;have:=aca.1 h x hx;cases x<;>simp [R7] at this;exact ⟨_,rfl⟩
theorem put_comm {a:Act}{x y:Nat}(h:x≠y)(v u:Value):(a.put (some x) v).put (some y) u=(a.put (some y) u).put (some x) v:=by show ({a with tmps:=(a.tmps.setIfInBounds x v).setIfInBounds y u}:Act)={a with tmps:=(a.tmps.setIfInBounds y u).setIfInBounds x v};rw [ago v u h]
theorem UP {y d:Nat}{o1 o2:Oper}{h:Nat} {v0 v' fv:Value}{ys:List MV} {φ0:Ph}{w0:World}(hs:cF c Z e st a w)(h1:o1.dst=some y)(h2:o2.dst=some d)(hyd:d≠y)(vG: ∀b,v0.ownBlock=some b->Z.In b)(iM:dI c (b7.plain λb=>v0.ownBlock=some b) (qg c.key e.φ) w v' ⟨c.sw (c.key h),false,ys⟩)(eS: ∀b,v'.ownBlock=some b->v0.ownBlock=some b)(wj: ∀b,v0.ownBlock=some b->(∀t gO,au st.fr t= .box gO->e.B t≠b)/\ ∀f o,aU st.bh f=some o->(e.E f).ownBlock≠some b)(ht:Trans Z φ0 w0 e.φ w)(hK:(lS st (o2.dst.getD 0) ⟨c.sw (c.key h),false,ys⟩ λst=>bV c st o2.dst (.sc (.own (o2.dst.getD 0))) λst=>bV c st o1.dst (.sc .un) K)=some r):Out c Z K r φ0 w0 ((a.put o1.dst fv).put o2.dst v') w:=by
 have Cr:=hs.npf hK;have sF:=wi hK;have B5:dI c Z.nc e w v' ⟨c.sw (c.key h),false,ys⟩:=by obtain ⟨I,cells,g1,g2,g3,g4,g5⟩:=iM.row;refine ⟨I,cells,g1,g2,g3,by rw [hs.key];exact g4,λbG hb=>⟨vG bG (eS bG hb),(g5 bG hb).2.1,λhc=>hc.elim⟩⟩
 have Nd:=hs.Sw Cr B5 λb hb=>wj b (eS b hb);obtain ⟨I,cells,g1,g2,g3,g4,g5⟩:=iM.row;have jP:v'.oneCell'=true:=by rcases g3.2 with ⟨rfl,_⟩|⟨g,cap,dM,rfl,_⟩<;>rfl
 obtain ⟨e3,oO,q1,q2,q3⟩:=ey (v:=v') (s:= .sc (.own (o2.dst.getD 0))) Nd (.of (De jP) trivial) sF;obtain ⟨e4,st4,q4,q5,q6⟩:=ey (v:=fv) (s:= .sc .un) q1 (.of (by simp [af]) trivial) q2;rw [h1,h2] at q4;rw [put_comm hyd] at q4;rw [h1,h2];exact ⟨e4,st4,q4,by rw [q6,q3];exact ht,q5⟩
theorem adu (hS:Sound P c){h f x y d:Nat}{cE:Array Operand}{cl:Call}{o1 o2:Oper}(hd:Nw P c h (c.sw (c.key h)))(h1:o1.op= .makeFunc (.func f) #[] cE)(h2:o2.op= .call cl)(sf:cl.callee= .value (.func h))(gm:cl.args.toList=[.tmp x,.tmp y])(hd1:o1.dst=some y)(X5:o2.dst=some d)(X2:x≠y)(hyd:d≠y)(hyn:y<c.n)(tf:cF c Z e st a w)(hK:Yp c h f cE.toList (.tmp x) o1 o2 st K=some r): o1.wp P a w (λa1 w1=>o2.wp P a1 w1 (Out c Z K r e.φ w) Q) Q:=by
 have akW:(execOp a.eval o1).run P w= .ok (.value (.func (.func f) #[] (cE.map a.eval))) w:=by simp [execOp,h1,Instr.makeFunc]
 unfold af1;rw [akW,aeg];have GM: ∀v:Value,(a.put o1.dst v).eval (.tmp x)=a.eval (.tmp x)/\(a.put o1.dst v).eval (.tmp y)=v:=by
  intro v;rw [hd1];have hy:y<a.tmps.size:=by rw [tf.size];exact hyn
  constructor
  ·show (a.put (some y) v).tmps.getD x undef=a.tmps.getD x undef;rw [Act.zH hy,if_neg X2]
  ·show (a.put (some y) v).tmps.getD y undef=v;rw [Act.zH hy,if_pos rfl]
 have ahS: ∀v:Value,cl.args.map (a.put o1.dst v).eval= #[a.eval (.tmp x),v]:=by intro v;apply adn.1;rw [ags,gm];simp [(GM v).1,(GM v).2]
 have LZ: ∀v:Value,(execOp (a.put o1.dst v).eval o2).run P w=(callFunc h #[a.eval (.tmp x),v]).run P w:=by intro v;have:=ahS v;simp [execOp,h2,resolve,sf,this,Act.eval,afw,invoke]
 unfold Yp at hK;cases BK:c.sig (c.key f) with
 |none=>
  simp only [BK] at hK;cases hg:c.fj (c.key f) with
  |true=>simp [hg] at hK
  |false=>
  simp only [hg,cond_false] at hK;obtain ⟨e1,dH,ms,s1,x1,r1,sF,jP⟩:=xB tf hK;obtain ⟨e2,eP,xs,G,zJ⟩:=tg s1 (s1.eval (.tmp x)).1 sF;simp only [gF] at zJ;obtain ⟨IJ,Ie⟩:=gk zJ;obtain ⟨p,hp,hK4⟩:=qH Ie;obtain ⟨ys,u⟩:=p;have wu:cN c.key e1.φ (cE.map a.eval).toList ms:=by have:=jk.one r1 jP;rw [s1.key] at this;simpa using this
  have GQ: ∀b,(a.eval (.tmp x)).ownBlock=some b-> ¬w.heap.size<=b:=by intro b hb;obtain ⟨I,cells,_,_,g3,_⟩:=G.row.row;have:=Nh g3 hb;omega
  have yR:=hd.run (SQ hS hg) (UO IJ) G.row GQ wu (λb hb=>hb) s1.qe hp;refine wm (LZ _) yR ?_;rintro v' w' ⟨Zw,φ',hW,iM,eS⟩;have adv: ∀b,((w.heap.size<=b\/w.heap.size<=b)\/(a.eval (.tmp x)).ownBlock=some b)->Z.In b:=by
   rintro b ((hb|hb)|hb)
   ·exact s1.dn b hb
   ·exact s1.dn b hb
   ·exact G.In b hb
  have hzb: ∀t cs,au eP.fr t= .box cs-> ¬((w.heap.size<=e2.B t\/w.heap.size<=e2.B t)\/(a.eval (.tmp x)).ownBlock=some (e2.B t)):=by
   rintro t cs ht ((hb|hb)|hb)
   ·have:=xD G.wk ht;omega
   ·have:=xD G.wk ht;omega
   ·exact G.box t cs ht hb
  have hzf: ∀f o k,aU eP.bh f=some o->(e2.E f).ownBlock=some k-> ¬((w.heap.size<=k\/w.heap.size<=k)\/(a.eval (.tmp x)).ownBlock=some k):=by
   rintro f o k ho hk ((hb|hb)|hb)
   ·have:=xF G.wk ho hk;omega
   ·have:=xF G.wk ho hk;omega
   ·exact G.jO f o k ho hk hb
  have yQ:=hW.tr;rw [<-G.φ] at yQ;have hs3:=G.wk.called adv hzb hzf yQ hW.qe;have th:Trans Z e.φ w φ' w':=x1.tr.trans (hW.tr.Ga adv);exact UP (e:={e2 with φ:=φ'}) hs3 hd1 X5 hyd G.In iM eS (λb hb=>⟨λt gO ht he=>G.box t gO ht (by rw [hb,<-he]),λf o ho hk=>G.jO f o b ho hk hb⟩) th hK4
 |some sg=>
  obtain ⟨pos,ks⟩:=sg;simp only [BK] at hK;obtain ⟨e1,dH,ms,s1,x1,r1,sF,jP⟩:=xB tf hK;obtain ⟨e2,eP,xs,G,zJ⟩:=tg s1 (s1.eval (.tmp x)).1 sF;simp only [gF] at zJ;obtain ⟨IJ,Ie⟩:=gk zJ;cases IK:cE.toList.getLast? with
  |none=>simp [IK] at Ie
  |some y0=>
  simp only [IK] at Ie;split at Ie;rotate_left
  ·cases Ie
  rename_i root SH;split at Ie;rotate_left
  ·cases Ie
  rename_i cs hf;cases mS:fR cs||bU eP.dg root||!je c ks||!acm pos (ms.length+1)||!c.fj (c.key f) with
  |true=>simp [mS] at Ie
  |false=>
  simp only [mS,cond_false] at Ie;simp only [ahd,Bool.not_eq_false'] at mS;obtain ⟨⟨⟨⟨hm,hr⟩,kS⟩,fm⟩,hg⟩:=mS;have fm:=IT fm;obtain ⟨ls,ps,ht,hK4⟩:=Cw Ie;obtain ⟨p,hp,hK5⟩:=qH hK4;obtain ⟨ys,outs⟩:=p;have hy0:a.eval y0= .pointer (some ⟨e2.B root,0,none⟩):=by have:=(G.wk.eval y0).1;rw [SH] at this;exact this
  have akX:(cE.map a.eval)=((cE.toList.dropLast.map a.eval)++[afy (some ⟨e2.B root,0,none⟩)]).toArray:=by
   apply adn.1;rw [ags];have dG:cE.toList≠[]:=by intro e;rw [e] at IK;simp at IK
   have h3:cE.toList=cE.toList.dropLast++[y0]:=by have h4:=List.dropLast_concat_getLast dG;have h5:=List.getLast?_eq_some_getLast dG;rw [IK] at h5;rw [ahL h5];exact h4.symm
   rw [h3];simp [hy0]
  have wu:cN c.key e2.φ (cE.toList.dropLast.map a.eval) ms:=by have:=jk.one r1 jP;rw [s1.key,<-G.φ] at this;exact this
  have Dp:dI c (b7.plain λb=>(a.eval (.tmp x)).ownBlock=some b) (qg c.key e2.φ) w (a.eval (.tmp x)) ⟨c.sw (c.key h),false,xs⟩:=by rw [G.φ];exact G.row
  let Z2:Nat->Prop:=λb=>w.heap.size<=b\/gone e2 root ps b;have hgx: ∀b,(a.eval (.tmp x)).ownBlock=some b-> ¬gone e2 root ps b:=by
   rintro b hb (rfl|⟨q,g,hp,hq⟩)
   ·exact G.box root cs hf hb
   ·obtain ⟨o,ho,_⟩:=ht.bh q g hp;exact G.jO g o b ho hq hb
  have dY: ∀b,(a.eval (.tmp x)).ownBlock=some b->b<w.heap.size:=by intro b hb;obtain ⟨I,cells,_,_,g3,_⟩:=G.row.row;exact Nh g3 hb
  have GQ: ∀b,(a.eval (.tmp x)).ownBlock=some b-> ¬Z2 b:=by
   rintro b hb (h'|h')
   ·have:=dY b hb;omega
   ·exact hgx b hb h'
  have uQ:oX c Z2 e2.φ w (e2.B root) ks ls:=(Ii G.wk hf hm kS ht).wide λb hb=> .inr hb;have yR:=hd.run (Ww hS hg BK fm) (UO IJ) Dp GQ ⟨uQ,wu⟩ (λb hb=> .inl hb) G.wk.qe hp;rw [<-akX] at yR;refine wm (LZ _) yR ?_;rintro v' w' ⟨Zw,φ',hW,iM,eS⟩;have hZ2: ∀b,Z2 b\/w.heap.size<=b->Z2 b:=λb hb=>hb.elim id .inl;have adv: ∀b,Z2 b->Z.In b:=λb hb=>hb.elim (G.wk.dn b) (Dh G.wk hf hr ht b);have yQ:Trans (λb=>Z2 b\/(a.eval (.tmp x)).ownBlock=some b) e2.φ w φ' w':=hW.tr.Ga λb hb=>hb.elim (λh=> .inl (hZ2 b h)) .inr;have ahT:oX c Z2 φ' w' (e2.B root) ks outs:=hW.inv.1.wide λb hb=>hZ2 b (hW.sub b hb);obtain ⟨e3,oO,h3,hφ3,hX,hK6⟩:=Wv G.wk hf hm hr ht (λb=>Iff.rfl) (X:=λb=>(a.eval (.tmp x)).ownBlock=some b) (λt gO Cp hb=>G.box t gO Cp hb) (λf o b ho hk hb=>G.jO f o b ho hk hb) yQ hW.qe ahT hK5;have th:Trans Z e.φ w φ' w':=by have t2:Trans Z e2.φ w φ' w':=yQ.Ga λb hb=>hb.elim (adv b) (G.In b);rw [G.φ] at t2;exact x1.tr.trans t2
  subst hφ3;exact UP h3 hd1 X5 hyd G.In iM eS (λb hb=>hX b hb (GQ b hb)) th hK6
end
end Dn
/-
  Regions in the order of their text. Conditions: none.
-/
namespace Dn
open Go
section
variable {P:Program}{c:Ctx}{Z:b7}{e:Env}{st:St}{a:Act}{w:World}{R:Type}{K:St->Option R}{r:R}{Q:Exit->Act->World->Prop}{ops:Array Oper}
theorem P7 (hG:Good P c){is:List Nat}{rest:List Nat}: ∀{os:List Oper}{e:Env}{st:St}{a:Act}{w:World},is.map (ops[·]?)=os.map some->cF c Z e st a w->BG c ops.toList os st K=some r-> ∀{φ0:Ph}{w0:World},Trans Z φ0 w0 e.φ w->(∀a' w',Out c Z K r φ0 w0 a' w'->wpOps P ops Q rest a' w')->wpOps P ops Q (is++rest) a w:=by
 induction is with
 |nil=>
  intro os e st a w hm h hK φ0 w0 ht hQ;cases os with
  |nil=>exact hQ a w ⟨e,st,h,ht,hK⟩
  |cons=>simp at hm
 |cons i is ih=>
  intro os e st a w hm h hK φ0 w0 ht hQ;cases os with
  |nil=>simp at hm
  |cons o os=>simp only [aec,adB] at hm;simp only [BG] at hK;rw [afv,wpOps_cons];refine wpOp_mono ?_ (UD hG hm.1 h hK);rintro a' w' ⟨e2,eP,h1,h2,h3⟩;exact ih hm.2 h1 h3 (ht.trans h2) hQ
structure afZ (c:Ctx) (l pre:List Oper) (f:Nat) (cE:List Operand) (h:Nat) (x:Operand) (o1 o2:Oper) (post:List Oper):Prop where
 eq:l=pre++o1::o2::post
 is: ∃(cs:Array Operand) (cl:Call) (x' y d:Nat),cs.toList=cE/\o1.op= .makeFunc (.func f) #[] cs/\o2.op= .call cl/\cl.callee= .value (.func h)/\cl.args.toList=[.tmp x',.tmp y]/\x= .tmp x'/\o1.dst=some y/\o2.dst=some d/\c.MY h=true/\x'≠y/\d≠y/\y<c.n
theorem SS: ∀{l pre Wx:List Oper}{f:Nat}{cE:List Operand}{h:Nat}{x:Operand}{o1 o2:Oper}{post:List Oper},C3 c pre l=some (Wx,f,cE,h,x,o1,o2,post)->afZ c (pre.reverse++l) Wx f cE h x o1 o2 post:=by
 intro l;induction l with
 |nil=>intro pre Wx f cE h x o1 o2 post hd;simp [C3] at hd
 |cons p1 l ih=>
  intro pre Wx f cE h x o1 o2 post hd;cases l with
  |nil=>simp [C3] at hd
  |cons p2 r=>
   have ahU:C3 c (p1::pre) (p2::r)=some (Wx,f,cE,h,x,o1,o2,post)->afZ c (pre.reverse++p1::p2::r) Wx f cE h x o1 o2 post:=by intro hq;have:=ih hq;simpa using this
   unfold C3 at hd;split at hd
   ·rename_i f' first cs cl h1 h2
    split at hd
    ·rename_i h' x' y' d' k1 k2 k3 k4;cases hb:c.MY h'&&acm y' d'&&!acm x' d'&&!aaL c.n d'&&!acm (p2.dst.getD d') d' with
     |false=>simp only [hb,cond_false] at hd;exact ahU hd
     |true=>
      simp only [hb,cond_true,IN,acs] at hd;obtain ⟨rfl,rfl,rfl,rfl,rfl,rfl,rfl,rfl⟩:=hd;simp only [sh,ace,gh,decide_eq_true_eq,decide_eq_false_iff_not] at hb;obtain ⟨⟨⟨⟨q1,rfl⟩,q3⟩,q4⟩,q5⟩:=hb;have hf:first= #[]:=by apply adn.1;simpa using k3
      subst hf;have X5: ∃d,p2.dst=some d/\d≠y':=by
       cases hp:p2.dst with
       |none=>rw [hp] at q5;simp at q5
       |some d=>rw [hp] at q5;exact ⟨d,rfl,q5⟩
      obtain ⟨d,X5,hd3⟩:=X5;refine ⟨rfl,cs,cl,x',y',d,rfl,h1,h2,k1,k2,rfl,k4,X5,q1,q3,hd3,?_⟩;rcases Nat.lt_or_ge y' c.n with dY|hge
      ·exact dY
      ·have ati:=aeU hge;simp_all
    ·exact ahU hd
   ·exact ahU hd
theorem P8: ∀{l:List Oper},HT l=true-> ∀o∈l,o.guard=none:=by
 intro l;induction l with
 |nil=>intro _ o ho;cases ho
 |cons p l ih=>
  intro h o ho;unfold HT at h;cases hg:p.guard with
  |none=>
   rw [hg] at h;rcases BY.1 ho with rfl|ho
   ·exact hg
   ·exact ih h o ho
  |some=>rw [hg] at h;cases h
theorem Wy (hG:Good P c)(Ny:xL P c)(id:Nat)(ops:Array Oper):PU P c id ops:=by
 intro Z e st a w R K r Q h hK hQ;unfold Yq at hK;split at hK;rotate_left
 ·exact LM (We hG id ops) h hK hQ
 rename_i pre f cE hh x o1 o2 post hda;obtain ⟨oM,cs,cl,x',y,d,rfl,k1,k2,k3,k4,rfl,k5,k6,k7,k8,k9,k10⟩:=SS hda;simp only [List.reverse_nil,afH] at oM;cases Lx:HT ops.toList with
 |false=>simp [Lx] at hK
 |true=>
 simp only [Lx,cond_true] at hK;obtain ⟨std,ZU,hK⟩:=uT h hK;have hgd:=P8 Lx;have O2:o1.guard=none:=hgd o1 (by rw [oM];simp);have Wt:o2.guard=none:=hgd o2 (by rw [oM];simp);refine wp_region ?_;have we:ops.size=pre.length+(post.length+2):=by rw [<-aar,oM];simp
 have na: ∀i,ops[i]? =(pre++o1::o2::post)[i]? :=λi=>by rw [<-oM,adP]
 have ahV:c9 ops.size=c9 pre.length++(pre.length::(pre.length+1)::((c9 post.length).map (· +(pre.length+2)))):=by rw [we,List.range_add];congr 1;rw [show post.length+2=2+post.length by omega,List.range_add];simp [List.range_succ];intros;omega
 rw [ahV];refine P7 hG (os:=pre) ?_ ZU hK (.refl _ _ _) ?_
 ·apply ael;intro i;simp only [age];by_cases hi:i<pre.length
  ·rw [ahp hi];simp only [aeh,na,List.getElem?_append_left hi];rw [abr hi];rfl
  ·rw [acq (by simp;omega),acq (by omega)];rfl
 ·rintro a1 w1 ⟨e1,dH,s1,t1,sF⟩;have hw:=adu hG.fn (Ny hh k7) k1 k2 k3 k4 k5 k6 k8 k9 k10 s1 sF (P:=P) (Q:=Q);have uX:ops[pre.length]? =some o1:=by rw [na];simp
  have X0:ops[pre.length+1]? =some o2:=by rw [na,ab9 (by omega)];simp
  rw [wpOps_cons];unfold wpOp;simp only [uX,aaq,O2,if_true];left;refine af2 ?_ hw;intro a2 w2 hw2;rw [wpOps_cons];unfold wpOp;simp only [X0,aaq,Wt,if_true];left;refine af2 ?_ hw2;rintro a3 w3 ⟨e3,oO,s3,t3,Ie⟩;rw [<-ahZ ((c9 post.length).map (· +(pre.length+2)))];refine P7 hG (os:=post) ?_ s3 Ie (t1.trans t3) ?_
  ·apply ael;intro i;simp only [age,ahF];by_cases hi:i<post.length
   ·rw [ahp hi];simp only [aeh,Function.comp,na];rw [ab9 (by omega),show i+(pre.length+2)-pre.length=i+2 by omega];simp [abr hi]
   ·rw [acq (by simp;omega),acq (by omega)];rfl
  ·intro a' w' ho;exact hQ a' w' ho
end
end Dn
/-
  Open order with two operations that may be done either way round. Conditions: none.
-/
namespace Dn
open Go
section
variable {P:Program}{ops:Array Oper}{Q:Exit->Act->World->Prop}
theorem L0 (A B:Nat):(KG ops A B).size=ops.size:=by simp [KG]
theorem IL (A B i:Nat):(KG ops A B)[i]? =(ops[i]?).map λo=>if B=i then {o with after:=o.after.push ⟨A,.data⟩} else o:=by
 unfold KG;rw [agZ];by_cases h:B=i
 ·simp [h]
 ·cases ops[i]? <;>simp [h]
theorem Nz (A B:Nat)(tmps:Array Value):yielded (KG ops A B) tmps=yielded ops tmps:=by
 funext j;unfold yielded;rw [IL];cases ops[j]? with
 |none=>rfl
 |some o=>
  have e:(if B=j then {o with after:=o.after.push ⟨A,.data⟩} else o).dst=o.dst:=by split<;>rfl
  simp only [aeh,Option.bind_some,e]
theorem Wz {A B i:Nat}{K:Act->World->Prop}{a:Act}{w:World}(h:wpOp P (KG ops A B) Q i K a w):wpOp P ops Q i K a w:=by
 unfold wpOp at h⊢;rw [IL,Nz] at h;cases hi:ops[i]? with
 |none=>rw [hi] at h;exact h
 |some o=>
  rw [hi] at h;simp only [aeh] at h;by_cases hb:B=i
  ·rw [if_pos hb] at h;exact h
  ·rw [if_neg hb] at h;exact h
theorem SU {A B i:Nat}{listed:Array Bool}:i∈AT .any (KG ops A B) listed↔i∈AT .any ops listed/\(i=B->listed.getD A false=true):=by
 unfold AT;rw [L0];simp only [List.mem_filter,List.mem_range,IL];cases hi:ops[i]? with
 |none=>simp
 |some o=>
  by_cases hb:B=i
  ·subst hb;simp [Array.all_push,adV];constructor
   ·rintro ⟨h1,h2,h3,h4⟩;exact ⟨⟨h1,h2,h3⟩,h4⟩
   ·rintro ⟨⟨h1,h2,h3⟩,h4⟩;exact ⟨h1,h2,h3,h4⟩
  ·have EU: ¬i=B:=λe=>hb e.symm;simp [hb,EU]
def Ahd (A B:Nat):Bool->List Nat->Prop
 |_,[]=>True
 |la,i::r=>(i=B->la=true)/\Ahd A B (la||decide (i=A)) r
theorem IM (A B:Nat): ∀L,Ahd A B true L
 |[]=>trivial
 |i::r=>⟨λ_=>rfl,by simpa using IM A B r⟩
theorem ZV {A B:Nat}(h:A≠B): ∀L,Ahd A B false L\/Ahd B A false L
 |[]=> .inl trivial
 |i::r=>by
  by_cases ha:i=A
  ·subst ha;exact .inl ⟨λe=>absurd e h,by simpa using IM i B r⟩
  ·by_cases hb:i=B
   ·subst hb;exact .inr ⟨λe=>absurd e ha,by simpa using IM i A r⟩
   ·rcases ZV h r with h1|h1
    ·exact .inl ⟨λe=>absurd e hb,by simpa [ha] using h1⟩
    ·exact .inr ⟨λe=>absurd e ha,by simpa [hb] using h1⟩
def sm (ops:Array Oper):List (Nat×Nat)->Array Oper
 |[]=>ops
 |p::E=>KG (sm ops E) p.1 p.2
theorem Cz: ∀E,(sm ops E).size=ops.size
 |[]=>rfl
 |p::E=>by rw [sm,L0,Cz E]
theorem IP {i:Nat}{K:Act->World->Prop}{a:Act}{w:World}: ∀E,wpOp P (sm ops E) Q i K a w->wpOp P ops Q i K a w
 |[],h=>h
 |_::E,h=>IP E (Wz h)
theorem zR {i:Nat}{listed:Array Bool}: ∀E,i∈AT .any (sm ops E) listed↔i∈AT .any ops listed/\ ∀p∈E,i=p.2->listed.getD p.1 false=true
 |[]=>by simp [sm]
 |p::E=>by rw [sm,SU,zR E,ac0];exact ⟨λh=>⟨h.1.1,h.2,h.1.2⟩,λh=>⟨⟨h.1,h.2.2⟩,h.2.1⟩⟩
theorem SV {E:List (Nat×Nat)}: ∀(fuel t:Nat)(listed:Array Bool)(a:Act)(w:World),(∀p∈E,p.1<listed.size)->wpAny P .any (sm ops E) Q fuel listed a w-> (∀p∈E,Ahd p.1 p.2 (listed.getD p.1 false) (aaJ .any ops fuel t listed []))->wpOps P ops Q (aaJ .any ops fuel t listed []) a w:=by
 intro fuel;induction fuel with
 |zero=>intro t listed a w _ h _;simpa [aaJ,wpOps] using h.2
 |succ fuel ih=>
  intro t listed a w hs h hA;obtain ⟨h₀,h₁⟩:=h;simp only [aaJ] at hA⊢;change wpOps P ops Q (match (AT .any ops listed)[t%(AT .any ops listed).length]? with
   |some i=>aaJ .any ops fuel (t/(AT .any ops listed).length) (listed.setIfInBounds i true) [i]
   |none=>[].reverse) a w
  change∀p∈E,Ahd p.1 p.2 (listed.getD p.1 false) (match (AT .any ops listed)[t%(AT .any ops listed).length]? with
   |some i=>aaJ .any ops fuel (t/(AT .any ops listed).length) (listed.setIfInBounds i true) [i]
   |none=>[].reverse) at hA
  cases hi:(AT .any ops listed)[t%(AT .any ops listed).length]? with
  |none=>
   have ahf:AT .any ops listed=[]:=by
    cases hr:AT .any ops listed with
    |nil=>rfl
    |cons x xs=>rw [hr] at hi;have dY:t%(x::xs).length<(x::xs).length:=Nat.mod_lt _ (by simp);simp at hi;simp at dY;omega
   have akY:AT .any (sm ops E) listed=[]:=by
    cases hr:AT .any (sm ops E) listed with
    |nil=>rfl
    |cons x xs=>
     have:x∈AT .any (sm ops E) listed:=by rw [hr];simp
     have:=((zR E).1 this).1;rw [ahf] at this;cases this
   simpa [wpOps] using h₀ akY
  |some i=>
   rw [hi] at hA;simp only [] at hA⊢;rw [linearise_go_acc,List.reverse_singleton,List.singleton_append] at hA⊢;rw [wpOps_cons];have zS:=(zR E).2 ⟨ahc hi,λp hp=>(hA p hp).1⟩;refine wpOp_mono (λa w hw=>ih _ _ a w (λp hp=>by simpa using hs p hp) hw λp hp=> ?_) (IP E (h₁ i zS));have hg:(listed.setIfInBounds i true).getD p.1 false=(listed.getD p.1 false||decide (i=p.1)):=by
    rw [adU,adU,Array.getElem?_setIfInBounds];by_cases hia:i=p.1
    ·subst hia;simp [hs p hp]
    ·simp [hia]
   rw [hg];exact (hA p hp).2
theorem P9 {c:Ctx}(hG:Good P c)(Qa:P.follows .mixedOrders=true)(Ny:xL P c):UF P c:=by
 refine ⟨λid ops=>Wy hG Ny id ops,?_,?_⟩
 ·intro id ops l hd hp Z e st a w R K r Q h hK hQ;refine agU ?_ (wp_region_any Qa (P5 hG hd hp h hK));intro x a' w' hx;cases x<;>first|exact hQ a' w' hx|exact hx.elim
 ·intro id ops k l Z e st a w R K r Q h hK hQ;refine agU (Q:=qi λa' w'=>Out c Z K r e.φ w a' w') ?_ (wp_region_draw λt=> ?_)
  ·intro x a' w' hx;cases x<;>first|exact hQ a' w' hx|exact hx.elim
  simp only [Region.schedule,Qa,Bool.true_or,if_true];have leaf: ∀(E:List (Nat×Nat)) (l:List Nat),(∀p∈E,p.1<ops.size)->Uk c (sm ops E) l st K=some r->(∀p∈E,Ahd p.1 p.2 false (aaJ .any ops ops.size t (IS ops.size false) []))-> wpOps P ops (qi λa' w'=>Out c Z K r e.φ w a' w') (aaJ .any ops ops.size t (IS ops.size false) []) a {w with drawn:=w.drawn+1}:=by
   intro E l hE hK hA;unfold Uk at hK;cases hd:Cl c (sm ops E) l with
   |false=>simp [hd] at hK
   |true=>
    simp only [hd,cond_true] at hK;split at hK
    ·rename_i l1 hp;have w1:=P5 hG hd hp h hK;rw [Cz] at w1;exact SV ops.size t _ a _ (by simpa using hE) w1 (λp hp=>by simpa [hE p hp] using hA p hp)
    ·cases hK
  have key: ∀(k:Nat) (E:List (Nat×Nat)) (l:List Nat),(∀p∈E,p.1<ops.size)->Po c st K k (sm ops E) l=some r->(∀p∈E,Ahd p.1 p.2 false (aaJ .any ops ops.size t (IS ops.size false) []))-> wpOps P ops (qi λa' w'=>Out c Z K r e.φ w a' w') (aaJ .any ops ops.size t (IS ops.size false) []) a {w with drawn:=w.drawn+1}:=by
   intro k;induction k with
   |zero=>intro E l _ hK;cases hK
   |succ k ih=>
    intro E l hE hK hA;simp only [Po] at hK;cases hb:acm l.length (sm ops E).toList.length with
    |true=>simp only [hb,cond_true] at hK;exact leaf E l hE hK hA
    |false=>
     simp only [hb,cond_false] at hK;split at hK
     ·rename_i o1 o2 A B ht;obtain ⟨q1,q2,q3⟩:=SK ht;have we:(sm ops E).toList.length=ops.size:=by rw [aar,Cz]
      rw [we] at q2 q3;obtain ⟨k1,k2⟩:=Wg hK;rcases ZV q1 (aaJ .any ops ops.size t (IS ops.size false) []) with ho|ho
      ·exact leaf ((A,B)::E) o1 (ac0.2 ⟨q2,hE⟩) k1 (ac0.2 ⟨ho,hA⟩)
      ·exact ih ((B,A)::E) o2 (ac0.2 ⟨q3,hE⟩) k2 (ac0.2 ⟨ho,hA⟩)
     ·cases hK
  exact key k [] l (by simp) hK (by simp)
end
end Dn
/-
  Functions of the library, by hand: copies of slices. Conditions: none.
-/
namespace Dn
open Go
section
variable {P:Program}{c:Ctx}{Q:Exit->Act->World->Prop}{ops:Array Oper}{o:Oper}{a:Act} {w w':World}
theorem vL {i:Nat}{rest:List Nat}{v:Value}(hi:ops[i]? =some o)(hg:o.guard=none)(cB:(execOp a.eval o).run P w= .ok (.value v) w')(h:wpOps P ops Q rest (a.put o.dst v) w'):wpOps P ops Q (i::rest) a w:=by rw [wpOps_cons];unfold wpOp;simp only [hi,aaq,hg,if_true];left;unfold af1;rw [cB,aeg];exact h
structure aY (o:Oper) (d:Nat) (op:Op):Prop where
 dst:o.dst=some d
 op:o.op=op
 guard:o.guard=none
theorem ahW {key:Nat->Nat} {φ:Ph}{size:Nat}{v:Value}{xs:List MV}(ki:B6 φ w)(fm:0<size)(hx:ni key φ [v] (.list xs))(hw:nS size xs=true): ∃news,Src (qg key φ) w size v xs news:=by
 generalize hv:[v]=vs at hx;cases hx with
 |list ad cap _ bG off OY f g1 g2 g3 g4 g5=>
 simp at hv;have hes: ∀i,i<xs.length->(f i).length=size:=by intro i hi;rw [(g5 i hi).width];exact Dc hw _ (adW hi)
 obtain ⟨cs,h1,h2⟩:=Ia hes g5;refine ⟨cs,h1,ad,cap,hv,?_,?_⟩
 ·intro hn;cases xs with
  |nil=>rfl
  |cons y ys=>have:=g2 (by simp);rw [hn] at this;cases this
 ·intro x hx j u hj;have KC:j<cs.length:=(acI.1 hj).1;rw [h1.length] at KC;have Ib:0<xs.length:=by
   cases xs with
   |nil=>simp at KC
   |cons y ys=>simp
  have PD:=g2 Ib;rw [hx] at PD;cases PD;have hq:j/size<xs.length:=(Nat.div_lt_iff_lt_mul fm).2 KC;have hm:=Nat.mod_lt j fm;have Ly:j=j/size *size+j%size:=by rw [Nat.mul_comm];exact (Nat.div_add_mod j size).symm
  have e1:=h2 (j/size) (j%size) hq hm;rw [<-Ly,hj] at e1;have YV:OY=size:=by rw [<-g3 0 Ib,hes 0 Ib]
  have e2:=g4 (j/size) (j%size) hq (by rw [YV];exact hm);rw [<-e1,YV,Nat.add_assoc,<-Ly] at e2;have:=ki _ _ _ e2;rw [adt];exact this
theorem WA {t t':TypeId}{el:TypeId}{x:Operand}{ad:Option Addr}{n cap:Nat}(hu:P.underlying t=some (.slice el))(ho:o.op= .binOp .eql t x (.const (.slice none 0 0)) t')(hx:a.eval x= .slice ad n cap): (execOp a.eval o).run P w= .ok (.value (.bool ad.isNone)) w:=by
 have he:a.eval (.const (.slice none 0 0))= .slice none 0 0:=rfl;have oM: ∀d:Nat,(Op.equalIn (d+1) t (.slice ad n cap) (.slice none 0 0)).run P w= .ok ad.isNone w:=by intro d;cases ad<;>simp [Op.equalIn,run_underlying hu]
 have hb:agA .eql t (.slice ad n cap) (.slice none 0 0)=(do pure (.bool (<-Op.equal t (.slice ad n cap) (.slice none 0 0)))):=rfl;have hg: ∀(x y:Operand),(eqGuard .eql t x y (.slice ad n cap) (.slice none 0 0)).run P w= .ok () w:=λ_ _=>rfl;have h2:(Op.equal t (.slice ad n cap) (.slice none 0 0)).run P w= .ok ad.isNone w:=oM 9999;unfold execOp;simp only [ho];rw [hx,he];simp [hg,hb,h2]
theorem Dq {f:FuncId}{fn:Func}{t:TypeId}{I E:TI}{i0 i1 i2 i3:Nat}{oA oB oC oD oE oF oG oH:Oper}{xs:List MV}(hT:lW P c.ti)(hI:c.tv t=some I)(hL:I.CW=true)(hE:c.tv I.elem=some E)(vZ:1<=E.bytes)(Fe:c.sw (c.key f)=I.elem)(hg:c.fj (c.key f)=false)
 (hf:P.funcs[f]? =some fn) (Dj:(fn.name== "runtime.NumGoroutine")=false) (hn:fn.ntmps=8) (hr:fn.results= #[.tmp 2])
 (q0:fn.body=some (.seq (.region i0 #[oA] false) (.seq (.seq (.region i1 #[oB,oC] false) (.cond (.tmp 4) (.seq (.region i2 #[oD] false) .ret) .skip)) (.seq (.region i3 #[oE,oF,oG,oH] false) .ret))))
 (hA:aY oA 2 (.assign (.const (.slice none 0 0)))) (hB:aY oB 3 (.move (.tmp 0))) (hC:aY oC 4 (.binOp .eql t (.tmp 3) (.const (.slice none 0 0)) t)) (hD:aY oD 2 (.assign (.const (.slice none 0 0))))
 (hEo:aY oE 5 (.buildSlice t 0 #[])) (hF:aY oF 6 (.move (.tmp 0))) (hG:aY oG 7 (.call {callee:= .builtin .append,args:= #[.tmp 5,.tmp 6],argTypes:= #[t,t]})) (hH:aY oH 2 (.assign (.tmp 7)))
 (hw:nS E.size xs=true) (oN:xs.length *E.bytes<=2^46):lX P c f [.list xs] (.fresh xs):=by
 obtain ⟨hIt,YI⟩:=b8 hI;obtain ⟨oQ,rU⟩:=b8 hE;obtain ⟨hu,E2,zv,_,fm⟩:=TI.nU (hT t I hIt) hL;rw [oQ] at zv;cases zv;intro φ W Z vs hz gm ki;simp only [fS,hg,By,if_false] at gm;obtain ⟨v,u,rfl,⟨_,hx⟩,hu0⟩:=gm;have hu0:u=[]:=hu0;subst hu0;obtain ⟨ad,cap,hv,EZ,hnn⟩: ∃ad cap,v= .slice ad xs.length cap/\xs.length<=cap/\(0<xs.length->ad≠none):=by
  have XW:=hx;generalize B1:[v]=vs at XW;cases XW with
  |list ad cap _ bG off OY f g1 g2 g3 g4 g5=>exact ⟨ad,cap,by simpa using B1,g1,λh0 hn=>by rw [g2 h0] at hn;cases hn⟩
 have cB:(callFunc f [v].toArray).run P W= .ok (.enter f #[v]) W:=by
  have GL: ¬fn.name= "runtime.NumGoroutine" :=by simpa using Dj
  simp [callFunc,hf,GL,q0]
 unfold ia;rw [cB];refine calls_of_wp hf q0 ?_;rw [hn];have ha0:({tmps:= #[v]++IS (8-(#[v]:Array Value).size) undef,defers:=[]}:Act)={tmps:= #[v,undef,undef,undef,undef,undef,undef,undef],defers:=[]}:=rfl;rw [ha0];have aoY:c9 (#[oA]:Array Oper).size=[0]:=rfl;have aoZ:c9 (#[oB,oC]:Array Oper).size=[0,1]:=rfl;have ao0:c9 (#[oE,oF,oG,oH]:Array Oper).size=[0,1,2,3]:=rfl;have ao1:c9 (#[oD]:Array Oper).size=[0]:=rfl;have fin: ∀(a:Act) (W':World) (v':Value) (cells:List Value),a.defers=[]->a.tmps.getD 2 undef=v'->(∃φ',Trans Z φ W φ' W'/\B6 φ' W'/\nb c Z φ' W' (c.key f) v' (.fresh xs))-> bodyPost P fn (λx AZ=> ∃v,x= .returned v/\ ∃φ',Trans Z φ W φ' AZ/\B6 φ' AZ/\nb c Z φ' AZ (c.key f) v (.fresh xs)) .ret a W':=by
  intro a W' v' cells hd h2 h3;refine ⟨hd,v',?_,v',rfl,h3⟩;have Px:a.tmps[2]?.getD undef=v':=by simpa using h2
  simp [results,hr,Px]
 refine wp_seq (wp_region ?_);rw [aoY];refine vL (o:=oA) rfl hA.guard (v:= .slice none 0 0) (w':=W) (by simp [execOp,hA.op];rfl) ?_;rw [hA.dst];refine wp_seq (wp_seq (wp_region ?_));rw [aoZ];refine vL (o:=oB) rfl hB.guard (v:=v) (w':=W) (by simp [execOp,hB.op];rfl) ?_;rw [hB.dst];refine vL (o:=oC) rfl hC.guard (v:= .bool ad.isNone) (w':=W) (WA hu hC.op (by rw [<-hv];rfl)) ?_;rw [hC.dst];refine wp_cond (t:=ad.isNone) rfl ?_;cases PD:ad.isNone with
 |true=>
  have PD:ad=none:=by simpa using PD
  have hxs:xs=[]:=by
   cases xs with
   |nil=>rfl
   |cons y ys=>exact absurd PD (hnn (by simp))
  simp only [if_true];refine wp_seq (wp_region ?_);rw [ao1];refine vL (o:=oD) rfl hD.guard (v:= .slice none 0 0) (w':=W) (by simp [execOp,hD.op];rfl) ?_;rw [hD.dst];refine wp_ret ?_;refine fin _ W (.slice none 0 0) [] rfl rfl ⟨φ,.refl _ _ _,ki,?_⟩;show dI c (b7.plain Z) (qg c.key φ) W _ ⟨c.sw (c.key f),false,xs⟩;rw [Fe,hxs];exact ⟨E,[],oQ,rU,⟨by simp,.inl ⟨rfl,rfl⟩⟩,rfl,λbG hb=>by simp [adm] at hb⟩
 |false=>
  simp only [By,if_false];refine wp_skip ?_;refine wp_seq (wp_region ?_);rw [ao0];have ak1:=Uw (P:=P) (c:=c) (w:=W) (t:=t) (I:=I) (vs:=[]) (parts:= #[]) hu oQ rU fm hT (by simp) (by simp) rfl;simp only [List.length_nil,List.flatMap_nil] at ak1;refine vL (o:=oE) rfl hEo.guard (v:= .slice (some ⟨W.heap.size,0,none⟩) 0 0) (w':=W.alloc (.cells #[] I.elem)) (by simp [execOp,hEo.op,ak1]) ?_;rw [hEo.dst];refine vL (o:=oF) rfl hF.guard (v:=v) (w':=W.alloc (.cells #[] I.elem)) (by simp [execOp,hF.op];rfl) ?_;rw [hF.dst];obtain ⟨news,BJ⟩:=ahW ki fm hx hw;have O2:eI W (W.alloc (.cells #[] I.elem)):= .alloc W _ _;have ak2:Src (qg c.key φ) (W.alloc (.cells #[] I.elem)) E.size v xs news:=by obtain ⟨ad',ag1,q1,q2,q3⟩:=BJ.val;exact ⟨BJ.els,ad',ag1,q1,q2,λx hx j u hj=>O2.cell (q3 x hx j u hj)⟩
  have eS:(W.alloc (.cells #[] I.elem)).ownsRow 0 I.elem E.size (.slice (some ⟨W.heap.size,0,none⟩) 0 0) 0 []:=⟨by simp,.inr ⟨W.heap.size,0, #[],rfl,aco _,nF W _,OF _,aco _,by simp,by simp⟩⟩
  obtain ⟨v',W',LZ,wj⟩:=Ct (P:=P) (c:=c) (ty:=oG.type) hu oQ rU fm hT vZ eS (ak2.apx hu) (by simpa using oN);refine vL (o:=oG) rfl hG.guard (v:=v') (w':=W') (by
   have e1: ∀(a:Act),a.eval (.tmp 5)= .slice (some ⟨W.heap.size,0,none⟩) 0 0->a.eval (.tmp 6)=v->(execOp a.eval oG).run P (W.alloc (.cells #[] I.elem))= .ok (.value v') W':=by intro a h5 h6;simp [execOp,hG.op,resolve,invoke,builtin,h5,h6,LZ]
   exact e1 _ rfl rfl) ?_
  rw [hG.dst];refine vL (o:=oH) rfl hH.guard (v:=v') (w':=W') (by simp [execOp,hH.op];rfl) ?_;rw [hH.dst];refine wp_ret ?_;refine fin _ W' v' [] rfl rfl ?_;have we:W.heap.size<=W'.heap.size:=acT O2.size wj.size;have hold: ∀b,b<W.heap.size->W'.heap[b]? =W.heap[b]? :=by intro b hb;rw [wj.A0 b (aei hb O2.size) (by simp [adm];omega)];exact O2.A0 b hb
  refine ⟨φ,⟨.refl _,λb _ hb=>hold b hb,λ_ _ _=>rfl,we,O2.rest.trans wj.rest⟩,?_,?_⟩
  ·intro b o u hbo;have h1:=ki b o u hbo;rw [ac5 (hold b (ab4 W _ h1))];exact h1
  ·show dI c (b7.plain Z) (qg c.key φ) W' v' ⟨c.sw (c.key f),false,xs⟩;rw [Fe];refine ⟨E,news,oQ,rU,by simpa using wj.own,BJ.els,λbG hb=> ?_⟩;have mD:W.heap.size<=bG:=by
    rcases wj.place with h1|h1
    ·rw [h1] at hb;simp [adm] at hb;omega
    ·rw [h1] at hb;cases hb;exact O2.size
   refine ⟨hz bG mD,λoff u hu=> ?_,λhc=>hc.elim⟩;have:=ab4 W _ (ki _ _ _ hu);have:bG<W.heap.size:=this;omega
end
end Dn
/-
  Tables of functions. Conditions: none.
-/
namespace Dn
open Go
structure jY (P:Program) (c:Ctx) (g:Nat->List MV->Option MV):Prop where
 all: ∀f ms r,g (c.key f) ms=some r->lX P c f ms r
abbrev bt (n:Nat)(F:List MV->Option MV)(g:Nat->List MV->Option MV):Nat->List MV->Option MV:=λk ms=>match acm k n with|true=>F ms|false=>g k ms
theorem jY.add {P:Program}{c:Ctx}{g:Nat->List MV->Option MV}{n:Nat}{F:List MV->Option MV}(h:jY P c g)(hF: ∀f ms r,c.key f=n->F ms=some r->lX P c f ms r):jY P c (bt n F g):=by
 refine ⟨λf ms r hr=> ?_⟩;unfold bt at hr;cases hk:acm (c.key f) n with
 |true=>simp only [hk] at hr;exact hF f ms r (IT hk) hr
 |false=>simp only [hk] at hr;exact h.all f ms r hr
structure Dr (c c':Ctx):Prop where
 ti:c'.ti=c.ti
 key:c'.key=c.key
 fj:c'.fj=c.fj
 fresh:c'.fresh=c.fresh
 sw:c'.sw=c.sw
 fk:c'.fk=c.fk
 mt:c'.mt=c.mt
 sig:c'.sig=c.sig
 MY:c'.MY=c.MY
theorem dI.qj {c c':Ctx}(h:c'.ti=c.ti){Z:b7}{e:Env}{w:World}{v:Value}{o:oR}(hs:dI c Z e w v o):dI c' Z e w v o:=by obtain ⟨I,cells,h1,h2⟩:=hs.row;exact ⟨I,cells,by rw [h];exact h1,h2⟩
theorem nb.qj {c c':Ctx}(h:Dr c c'){Z:Nat->Prop} {φ:Ph}{w:World}{k:Nat}{v:Value}{r:MV}(hs:nb c Z φ w k v r):nb c' Z φ w k v r:=by cases r<;>simp only [nb,h.key,h.sw] at hs⊢ <;>first|exact hs|exact hs.qj h.ti
theorem oX.qj {c c':Ctx}(h:Dr c c'){Z:Nat->Prop} {φ:Ph}{w:World}{bG:Nat}{ks:List LK}{ls:List MV}(hs:oX c Z φ w bG ks ls):oX c' Z φ w bG ks ls:=by obtain ⟨cs,m,E,arr,T,h1,h2,h3,h4,h5,h6,h7⟩:=hs;refine ⟨cs,m,E,arr,T,h1,h2,h3,h4,by rw [h.key];exact h5,λf o ho=>⟨?_,(h6 f o ho).2⟩,h7⟩;rw [h.key];exact (h6 f o ho).1.qj h.ti
theorem B7.qj {c c':Ctx}(h:Dr c c'){Z:Nat->Prop} {φ:Ph}{w:World}{k:Nat}{vs:List Value}{v:Value}{r:MV}(hs:B7 c Z φ w k vs v r):B7 c' Z φ w k vs v r:=by
 cases r<;>simp only [B7] at hs⊢ <;>first|exact hs.qj h|skip
 obtain ⟨h1,pos,ks,bG,off,h2,h3,h4⟩:=hs;exact ⟨h1.qj h,pos,ks,bG,off,by rw [h.sig];exact h2,h3,h4.qj h⟩
theorem fS.qj {c c':Ctx}(h:Dr c c'){Z:Nat->Prop} {φ:Ph}{w:World}{k:Nat}{vs:List Value}{ms:List MV}(hs:fS c' Z φ w k vs ms):fS c Z φ w k vs ms:=by
 unfold fS at hs⊢;rw [h.fj] at hs;split
 ·rename_i hg;rw [if_pos hg] at hs;rcases hs with ⟨v0,v1,v2,xs,m1,ys,h1,h2,h3,h4,h5,h6⟩|⟨v0,v1,v2,xs,m1,m2,h1,h2,h3,h4,h5,h6⟩|⟨pos,ks,off,ls,bG,h1,h2,h3,h4,h5⟩
  ·rw [h.key,h.sw] at h3 h5;rw [h.key] at h4;exact .inl ⟨v0,v1,v2,xs,m1,ys,h1,h2,h3.qj h.ti.symm,h4,h5.qj h.ti.symm,h6⟩
  ·rw [h.key,h.sw] at h4;rw [h.key] at h5 h6;exact .inr (.inl ⟨v0,v1,v2,xs,m1,m2,h1,h2,h3,h4.qj h.ti.symm,h5,h6⟩)
  ·refine .inr (.inr ⟨pos,ks,off,ls,bG,by rw [<-h.sig];exact h1,h2,h3,by rw [<-h.key];exact h4,?_⟩);obtain ⟨cs,m,E,arr,T,k1,k2,k3,k4,k5,k6,k7⟩:=h5;refine ⟨cs,m,E,arr,T,k1,k2,k3,k4,by rw [<-h.key];exact k5,λf o ho=>⟨?_,(k6 f o ho).2⟩,k7⟩;rw [<-h.key];exact (k6 f o ho).1.qj h.ti.symm
 ·rename_i hg;rw [if_neg hg,h.key] at hs;exact hs
theorem ia.mono {P:Program}{f:FuncId}{args:Array Value}{w:World} {R R':Value->World->Prop}(hc:ia P f args w R)(h: ∀v w',R v w'->R' v w'):ia P f args w R':=by
 unfold ia at hc⊢;split
 ·rename_i oM;rw [oM] at hc;exact Calls.mono hc (λx AZ ⟨v,e,hr⟩=>⟨v,e,h v AZ hr⟩)
 ·rename_i oM;rw [oM] at hc;exact h _ _ hc
 ·rename_i h1 h2;split at hc
  ·rename_i oM;exact absurd oM (h1 _ _ _)
  ·rename_i oM;exact absurd oM (h2 _ _)
  ·exact hc
theorem lX.qj {P:Program} {c c':Ctx}{f:Nat}{ms:List MV}{r:MV}(h:Dr c c')(hs:lX P c f ms r):lX P c' f ms r:=by intro φ w Z vs hz ha hi;rw [h.key] at ha;refine (hs φ w Z vs hz (ha.qj h) hi).mono ?_;rintro v w' ⟨φ',h1,h2,h3⟩;rw [h.key];exact ⟨φ',h1,h2,h3.qj h⟩
theorem Dr.symm {c c':Ctx}(h:Dr c c'):Dr c' c:=⟨h.ti.symm,h.key.symm,h.fj.symm,h.fresh.symm,h.sw.symm,h.fk.symm,h.mt.symm,h.sig.symm,h.MY.symm⟩
theorem xK.qj {P:Program} {c c':Ctx}(h:Dr c c'){g:Nat}{lb:Array Value}{S:Type}{Inv:S->(Nat->Prop)->Ph->World->Prop}{step:S->MV->Option (Bool×S)}(hp:xK P c' g lb Inv step):xK P c g lb Inv step:=⟨λh1 h2 h3 h4 h5=>hp.call h1 h2 h3 (by rw [h.key];exact h4) h5,hp.frame,hp.mono⟩
theorem xL.qj {P:Program} {c c':Ctx}(h:Dr c c')(hd:xL P c):xL P c':=by intro f hf;rw [h.MY] at hf;have hx:=hd f hf;refine ⟨?_⟩;intro S Inv step g lb hp v0 xs ys w Z0 φ0 s0 s' h1 h2 h3 h4 h5 h6 h7;rw [h.key,h.sw] at h2;refine (hx.run (hp.qj h) h1 (h2.qj h.ti.symm) h3 h4 h5 h6 h7).mono ?_;rintro v W ⟨Z,φ,hW,hF,hb⟩;refine ⟨Z,φ,⟨hW.inv,hW.new,hW.sub,hW.qe,hW.tr,hW.free⟩,?_,hb⟩;rw [h.key,h.sw];exact hF.qj h.ti
def L7 (c:Ctx)(n:Nat)(fn:Func)(cE:List (List Kd)):Bool:=
 !(fn.name== "runtime.NumGoroutine")&&acm c.n fn.ntmps&&aaL (fn.params.size+cE.length) fn.ntmps&&!c.fj n
def IQ (c:Ctx)(n:Nat)(fn:Func):Option Nat->Bool
 |none=>true
 |some ty=>acm ty (c.sw n)&&(acm fn.results.toList.length 1&&(match c.tv ty with|some _=>true|none=>false))
theorem WB {c:Ctx}{n:Nat}{fn:Func}{fresh:Option Nat}(h:IQ c n fn fresh=true): ∀ty,fresh=some ty->ty=c.sw n/\fn.results.toList.length=1/\ ∃I,c.tv ty=some I:=by
 rintro ty rfl;simp only [IQ,sh] at h;obtain ⟨h1,h2,h3⟩:=h;refine ⟨IT h1,IT h2,?_⟩;cases hc:c.tv ty with
 |none=>rw [hc] at h3;cases h3
 |some I=>exact ⟨I,rfl⟩
theorem jY.body {P:Program} {c c':Ctx}{g:Nat->List MV->Option MV}{n:Nat}{fn:Func}{cE:List (List Kd)}(h:jY P c g)(hl:Dr c c')(hgg:c'.g=g)(uB:lW P c.ti)(oM:Sf P c.ti)(hfk: ∀t k,c.fk t=some k->P.underlying t=some (.float k))(UE:E6 P c)(Qa:P.follows .mixedOrders=true)(Ny:xL P c)(hf:P.funcs[n]? =some fn)(hh:L7 c' n fn cE=true)(Cv: ∀f,c.key f=f){fresh:Option Nat}(EW:IQ c' n fn fresh=true):jY P c (bt n (HV c' cE fresh fn) g):=by
 have hG:Good P c':=by
  refine ⟨by rw [hl.ti];exact uB,by rw [hl.ti];exact oM,λf ms r hr=> ?_,by rw [hl.fk];exact hfk,λt s hs=>UE t s ?_⟩
  ·rw [hgg,hl.key] at hr;exact (h.all f ms r hr).qj hl
  ·rw [<-hs];unfold VO Ctx.tv;rw [hl.mt,hl.ti]
 refine h.add (λf ms r hk hr=> ?_);rw [Cv] at hk;subst hk;simp only [L7,sh,ace] at hh;obtain ⟨⟨⟨h1,h2⟩,h3⟩,h4⟩:=hh;exact (adb hG (P9 hG Qa (Ny.qj hl)) hf h1 (IT h2) (No h3) (by rw [hl.key,Cv];exact h4) (by rw [hl.key,Cv];exact WB EW) hr).qj hl.symm
def UQ (c:Ctx)(n:Nat)(fn:Func)(cE:List (List Kd)):Bool:=
 !(fn.name== "runtime.NumGoroutine")&&acm c.n fn.ntmps&&aaL fn.ntmps 1000000&&aaL (fn.params.size+cE.length) fn.ntmps&&c.fj n
theorem jY.RV {P:Program}{c:Ctx}{g:Nat->List MV->Option MV}{n pos:Nat}{ks:List LK}{fn:Func}{cE:List (List Kd)}{F:List MV->Option MV}(h:jY P c g)(uB:lW P c.ti)(oM:Sf P c.ti)(hfk: ∀t k,c.fk t=some k->P.underlying t=some (.float k))(UE:E6 P c)(Qa:P.follows .mixedOrders=true)(Ny:xL P c)(hf:P.funcs[n]? =some fn)(BK:c.sig n=some (pos,ks))(Cv: ∀f,c.key f=f)(hF: ∀{ms r},F ms=some r-> ∃c':Ctx,Dr c c'/\c'.g=g/\UQ c' n fn cE=true/\Ls c' cE pos ks fn ms=some r):jY P c (bt n F g):=by
 refine h.add (λf ms r hk hr=> ?_);rw [Cv] at hk;subst hk;obtain ⟨c',hl,hgg,hh,hr⟩:=hF hr;have hG:Good P c':=by
  refine ⟨by rw [hl.ti];exact uB,by rw [hl.ti];exact oM,λf ms r hr=> ?_,by rw [hl.fk];exact hfk,λt s hs=>UE t s ?_⟩
  ·rw [hgg,hl.key] at hr;exact (h.all f ms r hr).qj hl
  ·rw [<-hs];unfold VO Ctx.tv;rw [hl.mt,hl.ti]
 simp only [UQ,sh,ace] at hh;obtain ⟨⟨⟨⟨h1,h2⟩,Px⟩,h3⟩,h4⟩:=hh;exact (ZK hG (P9 hG Qa (Ny.qj hl)) hf h1 (IT h2) (No Px) (No h3) (by rw [hl.key,Cv];exact h4) (by rw [hl.sig,hl.key,Cv];exact BK) hr).qj hl.symm
end Dn
/-
  Steps through a function of the library by hand. Conditions: none.
-/
namespace Dn
open Go
def zT (σ:Nat->Value)(d:Nat)(v:Value):Nat->Value:=λt=>bif acm t d then v else σ t
def ev (σ:Nat->Value):Operand->Value
 | .tmp t=>σ t
 | .const v=>v
 | .global g=> .pointer (some ⟨g,0,none⟩)
 | .func f=> .func (.func f) #[] #[]
structure Tm (a:Act) (n:Nat) (σ:Nat->Value):Prop where
 defers:a.defers=[]
 size:a.tmps.size=n
 get: ∀t,a.tmps.getD t undef=σ t
theorem Tm.eval {a:Act}{n:Nat} {σ:Nat->Value}(h:Tm a n σ):a.eval=ev σ:=by
 funext x;cases x with
 |tmp t=>exact h.get t
 |_=>rfl
theorem Tm.put {a:Act}{n:Nat} {σ:Nat->Value}(h:Tm a n σ){d:Nat}(hd:d<n)(v:Value):Tm (a.put (some d) v) n (zT σ d v):=by
 refine ⟨h.defers,by simp [Act.put,h.size],λt=> ?_⟩;show (a.tmps.setIfInBounds d v).getD t undef=bif acm t d then v else σ t;by_cases ht:t=d
 ·subst ht;have:t<a.tmps.size:=by rw [h.size];exact hd
  simp [this]
 ·have hb:acm t d=false:=by
   cases hq:acm t d with
   |false=>rfl
   |true=>exact absurd (IT hq) ht
  rw [hb];have:=h.get t;simp only [adU,Array.getElem?_setIfInBounds_ne (ah0 ht),cond_false] at this⊢;exact this
theorem tm3 (v0 v1 v2:Value)(k:Nat):Tm {tmps:= #[v0,v1,v2]++IS k undef,defers:=[]} (k+3) (zT (zT (zT (λ_=>undef) 0 v0) 1 v1) 2 v2):=by
 refine ⟨rfl,by simp [af3],λq=> ?_⟩;by_cases h0:q=0
 ·subst h0;show (#[v0,v1,v2]++IS k undef).getD 0 undef=v0;simp [ach]
 by_cases h1:q=1
 ·subst h1;show (#[v0,v1,v2]++IS k undef).getD 1 undef=v1;simp [ach]
 by_cases h2:q=2
 ·subst h2;show (#[v0,v1,v2]++IS k undef).getD 2 undef=v2;simp [ach]
 have e: ∀{x y:Nat},x≠y->acm x y=false:=λ{x y} h=>by
  cases hq:acm x y with
  |false=>rfl
  |true=>exact absurd (IT hq) h
 simp only [zT,e h0,e h1,e h2,cond_false];have h3:3<=q:=by omega
 simp [ach,agq,show¬q<3 by omega];by_cases hk:q-3<k<;>simp [hk]
section
variable {P:Program}{Q:Exit->Act->World->Prop}{ops:Array Oper}{o:Oper}{a:Act} {w w':World}{n:Nat} {σ:Nat->Value}
theorem Tm.step {i d:Nat}{op:Op}{rest:List Nat}{v:Value}(aM:Tm a n σ)(hi:ops[i]? =some o)(ho:aY o d op)(hd:d<n)(cB:(execOp (ev σ) o).run P w= .ok (.value v) w')(h: ∀a',Tm a' n (zT σ d v)->wpOps P ops Q rest a' w'):wpOps P ops Q (i::rest) a w:=by refine vL hi ho.guard (v:=v) (w':=w') (by rw [aM.eval];exact cB) ?_;rw [ho.dst];exact h _ (aM.put hd v)
theorem aX {d:Nat}{x:Operand}{e:Operand->Value}(ho:aY o d (.move x))(w:World):(execOp e o).run P w= .ok (.value (e x)) w:=by simp [execOp,ho.op]
theorem dC {d:Nat}{x:Operand}{e:Operand->Value}(ho:aY o d (.assign x))(w:World):(execOp e o).run P w= .ok (.value (e x)) w:=by simp [execOp,ho.op]
theorem nJ {d:Nat}{t el:TypeId}{x:Operand}{e:Operand->Value}{ad:Option Addr}{m c:Nat}(ho:aY o d (.call {callee:= .builtin .len,args:= #[x],argTypes:= #[t]})) (hu:P.underlying t=some (.slice el)) (hx:e x= .slice ad m c) (w:World): (execOp e o).run P w= .ok (.value (.int .i64 m)) w:=by simp [execOp,ho.op,resolve,invoke,builtin,hx,Builtin.len_,goInt,run_underlying hu]
theorem UR {d:Nat}{t el:TypeId}{x:Operand}{e:Operand->Value}{ad:Option Addr}{m c:Nat}(ho:aY o d (.call {callee:= .builtin .cap,args:= #[x],argTypes:= #[t]})) (hu:P.underlying t=some (.slice el)) (hx:e x= .slice ad m c) (w:World): (execOp e o).run P w= .ok (.value (.int .i64 c)) w:=by simp [execOp,ho.op,resolve,invoke,builtin,hx,Builtin.cap_,goInt,run_underlying hu]
theorem zU {d:Nat}{op:BinOp} {t t':TypeId}{x y:Operand}{e:Operand->Value}{k:IntKind}{p q:Int}{v:Value}(ho:aY o d (.binOp op t x y t'))(hx:e x= .int k p)(hy:e y= .int k q)(hv: ∀w:World,(agA op t (.int k p) (.int k q)).run P w= .ok v w)(w:World):(execOp e o).run P w= .ok (.value v) w:=by
 have hg:(eqGuard op t x y (.int k p) (.int k q)).run P w= .ok () w:=by cases op<;>rfl
 simp [execOp,ho.op,hx,hy,hg,hv]
theorem qJ {d:Nat} {t t':TypeId}{x y:Operand}{e:Operand->Value}{p q:Int}(ho:aY o d (.binOp .eql t x y t'))(hx:e x= .int .i64 p)(hy:e y= .int .i64 q)(w:World): (execOp e o).run P w= .ok (.value (.bool (decide (p=q)))) w:=zU ho hx hy (λw=>by simp [agA,aiu];rfl) w
theorem Qb {d:Nat} {t t':TypeId}{x y:Operand}{e:Operand->Value}{p q:Int}(ho:aY o d (.binOp .gtr t x y t'))(hx:e x= .int .i64 p)(hy:e y= .int .i64 q)(w:World): (execOp e o).run P w= .ok (.value (.bool (decide (q<p)))) w:=zU ho hx hy (λw=>by simp [agA,aiu]) w
theorem kU {d:Nat} {t t':TypeId}{x y:Operand}{e:Operand->Value}{p q:Nat}(ho:aY o d (.binOp .add t x y t'))(hx:e x= .int .i64 p)(hy:e y= .int .i64 q)(hl:p+q<2^63)(w:World): (execOp e o).run P w= .ok (.value (.int .i64 ((p+q:Nat):Int))) w:=zU ho hx hy (λw=>by
  have:IntKind.i64.wrap ((p:Int)+(q:Int))=((p+q:Nat):Int):=by rw [adX];omega
  simp [agA,Op.intArith,this]) w
theorem ZW {d:Nat} {t t':TypeId}{x y:Operand}{e:Operand->Value}{p q:Nat}(ho:aY o d (.binOp .sub t x y t'))(hx:e x= .int .i64 p)(hy:e y= .int .i64 q)(hl:p<2^63)(hq:q<=p)(w:World): (execOp e o).run P w= .ok (.value (.int .i64 ((p-q:Nat):Int))) w:=zU ho hx hy (λw=>by
  have:IntKind.i64.wrap ((p:Int)-(q:Int))=((p-q:Nat):Int):=by rw [adX];omega
  simp [agA,Op.intArith,this]) w
theorem US {d:Nat}{t:TypeId}{x:Operand}{e:Operand->Value}{b:Bool}(ho:aY o d (.unOp .not t x))(hx:e x= .bool b)(w:World): (execOp e o).run P w= .ok (.value (.bool (!b))) w:=by simp [execOp,ho.op,hx,Op.unary]
theorem zV {d:Nat}{t el:TypeId}{x y:Operand}{e:Operand->Value}{ad:Option Addr}{m c l size:Nat}{i:TypeInfo}(ho:aY o d (.slice t x (some y) none none))(hu:P.underlying t=some (.slice el))(hi:P.info? el=some i)(hs:i.size=size)(hx:e x= .slice ad m c)(hy:e y= .int .i64 l)(hl:l<=m)(w:World):(execOp e o).run P w= .ok (.value (.slice (if c=l then ad else ad.map (·.add (l *size))) (m-l) (c-l))) w:=by simp [execOp,ho.op,agr,ahe,run_underlying hu,hx,hy,af6,typeInfo,hi,hs,aem,afx,asIntOf,hl]
theorem Ds {d:Nat}{t el:TypeId}{x y:Operand}{e:Operand->Value}{ad:Option Addr}{m c l size:Nat}{i:TypeInfo}(ho:aY o d (.slice t x none (some y) none))(hu:P.underlying t=some (.slice el))(hi:P.info? el=some i)(hs:i.size=size)(hx:e x= .slice ad m c)(hy:e y= .int .i64 l)(hl:l<=c)(w:World):(execOp e o).run P w= .ok (.value (.slice ad l c)) w:=by
 have h0: ∀q:Addr,q.add 0=q:=λq=>by obtain ⟨b,o,s⟩:=q;cases s<;>simp [Addr.add]
 have:(if c=0 then ad else ad.map (·.add (0 *size)))=ad:=by cases ad<;>simp [h0]
 simp [execOp,ho.op,agr,ahe,run_underlying hu,hx,hy,af6,typeInfo,hi,hs,aem,afx,asIntOf,hl];cases ad<;>simp [h0]
theorem oq {d:Nat}{t el:TypeId}{x y:Operand}{e:Operand->Value}{g m c l size:Nat}{i:TypeInfo}(ho:aY o d (.slice t x (some y) none none))(hu:P.underlying t=some (.slice el))(hi:P.info? el=some i)(hs:i.size=size)(hx:e x= .slice (some ⟨g,0,none⟩) m c)(hy:e y= .int .i64 l)(hl:l<=m)(hc:l<c)(w:World):(execOp e o).run P w= .ok (.value (.slice (some ⟨g,l *size,none⟩) (m-l) (c-l))) w:=by
 rw [zV ho hu hi hs hx hy hl w];have: ¬c=l:=by omega
 have h0:(⟨g,0,none⟩:Addr).add (l *size)=⟨g,l *size,none⟩:=by have:=adt g 0 (l *size);rwa [aen] at this
 simp [this,h0]
theorem adw {d:Nat}{x y:Operand}{t1 t2:TypeId}{f:FuncId}{e:Operand->Value}{v1 v2 v:Value}(ho:aY o d (.call {callee:= .value (.func f),args:= #[x,y],argTypes:= #[t1,t2]})) (he:e (.func f)= .func (.func f) #[] #[]) (hx:e x=v1) (hy:e y=v2) (h:(callFunc f #[v1,v2]).run P w= .ok (.value v) w'):(execOp e o).run P w= .ok (.value v) w':=by simp [execOp,ho.op,resolve,invoke,builtin,he,hx,hy,afw,h]
theorem IR {d:Nat}{x y:Operand}{t1 t2:TypeId}{e:Operand->Value}{v1 v2 v:Value}(ho:aY o d (.call {callee:= .builtin .append,args:= #[x,y],argTypes:= #[t1,t2]})) (hx:e x=v1) (hy:e y=v2) (h:(acN #[t1,t2] o.type #[v1,v2]).run P w= .ok v w'):(execOp e o).run P w= .ok (.value v) w':=by simp [execOp,ho.op,resolve,invoke,builtin,hx,hy,h]
theorem Dt {d:Nat}{x y:Operand}{t1 t2:TypeId}{e:Operand->Value}{v1 v2 v:Value}(ho:aY o d (.call {callee:= .builtin .copy,args:= #[x,y],argTypes:= #[t1,t2]})) (hx:e x=v1) (hy:e y=v2) (h:(acx #[t1,t2] o.type #[v1,v2]).run P w= .ok v w'):(execOp e o).run P w= .ok (.value v) w':=by simp [execOp,ho.op,resolve,invoke,builtin,hx,hy,h]
theorem qK {dT sT ty elem t:TypeId}{g o adx ahX qf zL size k:Nat}{a:Addr}{dM:Array Value}{cs:List Value}{i:TypeInfo}(hu:P.underlying dT=some (.slice elem))(hi:P.info? elem=some i)(hs:i.size=size)(hg:w.heap[g]? =some (.cells dM t (0,0)))(hk:Nat.min qf adx=k)(hn:cs.length=k *size)(BJ: ∀(j:Nat) v,cs[j]? =some v->w.cell? (a.add j)=some v)(zg:o+cs.length<=dM.size)(h1: ∀v∈cs,v.oneCell'=true): (acx #[dT,sT] ty #[.slice (some ⟨g,o,none⟩) adx ahX,.slice (some a) qf zL]).run P w= .ok (goInt k) (w.setRow g (dM.toList.take o++cs++dM.toList.drop (o+cs.length)).toArray):=by have hl:=run_loadCells_list (P:=P) w a cs BJ;have eR:=run_storeCells_at P g o t cs 0 dM w hg (by simpa using zg) h1;simp only [aiA] at eR;simp [acx,run_underlying hu,Builtin.lenOf,ahx,af6,typeInfo,hi,hs,hk,<-hn,hl,eR]
def Qc (ops:Array Oper):Nat->Nat->Array Bool->Bool
 |0,i,listed=>(AT .any ops (listed.setIfInBounds i true)).isEmpty&&(AT .any ops listed==[i])
 |k+1,i,listed=>Region.free .any ops listed i&&(AT .any ops listed).contains i&&Qc ops k (i+1) (listed.setIfInBounds i true)
def UT (ops:Array Oper):Bool:=afP ops&&Nat.blt 0 ops.size&&Qc ops (ops.size-1) 0 (IS ops.size false)
structure UU (ops:Array Oper) (k i:Nat) (listed:Array Bool):Prop where
 sel:afP ops=true
 ord:Qc ops k i listed=true
theorem Tm.draw {N:Act->World->Prop}{i d:Nat}{op:Op}{k:Nat}{listed:Array Bool}{v:Value}(aM:Tm a n σ)(hi:ops[i]? =some o)(ho:aY o d op)(hd:d<n)(hb:UU ops (k+1) i listed)(cB: ∀w,(execOp (ev σ) o).run P w= .ok (.value v) w)(h: ∀a',Tm a' n (zT σ d v)->UU ops k (i+1) (listed.setIfInBounds i true)->wpAny P .any ops (qi N) (k+1) (listed.setIfInBounds i true) a' w):wpAny P .any ops (qi N) (k+2) listed a w:=by obtain ⟨hs,hb⟩:=hb;simp only [Qc,sh] at hb;obtain ⟨⟨h1,h2⟩,h3⟩:=hb;refine wpAny_take hi hs h1 h2 (λc a w hq=>hq.elim) (v:=v) (.inl ⟨by simp [aaq,ho.guard],λw=>by rw [aM.eval];exact cB w⟩) ?_;rw [ho.dst];exact h _ (aM.put hd v) ⟨hs,h3⟩
theorem Tm.last {N:Act->World->Prop}{i d:Nat}{op:Op}{listed:Array Bool}{v:Value}(aM:Tm a n σ)(hi:ops[i]? =some o)(ho:aY o d op)(hd:d<n)(hb:UU ops 0 i listed)(cB:(execOp (ev σ) o).run P w= .ok (.value v) w')(h: ∀a',Tm a' n (zT σ d v)->N a' w'):wpAny P .any ops (qi N) 1 listed a w:=by obtain ⟨hs,hb⟩:=hb;simp only [Qc,sh,List.isEmpty_iff,beq_iff_eq] at hb;obtain ⟨h1,h2⟩:=hb;refine wpAny_all h2 (by simp) ?_;intro j hj;simp only [af7] at hj;subst hj;unfold wpOp;simp only [hi,aaq,ho.guard,if_true];left;unfold af1;rw [aM.eval,cB,aeg,ho.dst];exact wpAny_done h1 (h _ (aM.put hd v)) 0
theorem UW {id k:Nat}(hm:P.follows .mixedOrders=true)(hb:UT ops=true)(hk:ops.size=k+1)(h:UU ops k 0 (IS (k+1) false)->wpAny P .any ops (qi λa w=>Q .normal a w) (k+1) (IS (k+1) false) a {w with drawn:=w.drawn+1}): (agk id ops true).wp P Q a w:=by simp only [UT,sh] at hb;rw [hk] at hb;refine agU ?_ (wp_region_any (Q:=qi λa w=>Q .normal a w) hm (by rw [hk];exact h ⟨hb.1.1,hb.2⟩));intro x a' w' hx;cases x<;>first|exact hx|exact hx.elim
theorem Tm.cond {x:Operand}{b:Bool}{A B:Code}(aM:Tm a n σ)(hx:ev σ x= .bool b)(h:(if b then A else B).wp P Q a w):(Code.cond x A B).wp P Q a w:=by refine wp_cond (t:=b) (by rw [aM.eval];exact hx) h
end
end Dn
/-
  slices.Insert of the library, walked. Printed by a program. Conditions: none.
-/
namespace Dn
open Go
def xM (r:Nat->Nat)(o:Nat->Oper)(tail:Code):Code:= .seq (.region (r 0) #[o 0] false) (.seq (.region (r 1) #[o 1,o 2,o 3] false) (.seq (.region (r 2) #[o 4,o 5,o 6] false) (.seq (.seq (.region (r 3) #[o 7,o 8] false) (.cond (.tmp 16) (.seq (.region (r 4) #[o 9,o 10] false) .ret) .skip)) (.seq (.region (r 5) #[o 11,o 12,o 13] false) (.seq (.seq (.region (r 6) #[o 14,o 15,o 16] false) (.cond (.tmp 22) (.seq (.region (r 7) #[o 17,o 18,o 19,o 20] false) .ret) .skip)) (.seq (.seq (.region (r 8) #[o 21,o 22,o 23,o 24,o 25,o 26] false) (.cond (.tmp 31) (.seq (.region (r 9) #[o 27,o 28,o 29,o 30,o 31,o 32,o 33,o 34,o 35,o 36] false) (.seq (.region (r 10) #[o 37,o 38,o 39,o 40,o 41] false) (.seq (.region (r 11) #[o 42,o 43,o 44,o 45,o 46,o 47,o 48,o 49,o 50] true) (.seq (.region (r 12) #[o 51,o 52] false) .ret)))) .skip)) (.seq (.region (r 13) #[o 53,o 54,o 55,o 56,o 57,o 58] false) (.seq (.seq (.region (r 14) #[o 59,o 60,o 61,o 62,o 63,o 64,o 65,o 66] false) (.cond (.tmp 68) (.seq (.region (r 15) #[o 67,o 68,o 69,o 70,o 71,o 72,o 73,o 74,o 75] true) (.seq (.region (r 16) #[o 76,o 77,o 78,o 79,o 80] false) (.seq (.region (r 17) #[o 81,o 82] false) .ret))) .skip)) tail))))))))
structure ahY (t ti tb fo:Nat) (o:Nat->Oper):Prop where
 h0:aY (o 0) 6 (.assign (.const (.slice none 0 0)))
 h1:aY (o 1) 10 (.move (.tmp 0))
 h2:aY (o 2) 11 (.move (.tmp 1))
 h3:aY (o 3) 12 (.slice t (.tmp 10) (some (.tmp 11)) none none)
 h4:aY (o 4) 13 (.move (.tmp 2))
 h5:aY (o 5) 14 (.call {callee:= .builtin .len,args:= #[.tmp 13],argTypes:= #[t]})
 h6:aY (o 6) 7 (.assign (.tmp 14))
 h7:aY (o 7) 15 (.move (.tmp 7))
 h8:aY (o 8) 16 (.binOp .eql ti (.tmp 15) (.const (.int .i64 0)) ti)
 h9:aY (o 9) 17 (.move (.tmp 0))
 UH:aY (o 10) 6 (.assign (.tmp 17))
 SW:aY (o 11) 18 (.move (.tmp 0))
 SX:aY (o 12) 19 (.call {callee:= .builtin .len,args:= #[.tmp 18],argTypes:= #[t]})
 SY:aY (o 13) 8 (.assign (.tmp 19))
 SZ:aY (o 14) 20 (.move (.tmp 1))
 O5:aY (o 15) 21 (.move (.tmp 8))
 S0:aY (o 16) 22 (.binOp .eql ti (.tmp 20) (.tmp 21) ti)
 ZX:aY (o 17) 23 (.move (.tmp 0))
 h18:aY (o 18) 24 (.move (.tmp 2))
 h19:aY (o 19) 25 (.call {callee:= .builtin .append,args:= #[.tmp 23,.tmp 24],argTypes:= #[t,t]})
 h20:aY (o 20) 6 (.assign (.tmp 25))
 h21:aY (o 21) 26 (.move (.tmp 8))
 h22:aY (o 22) 27 (.move (.tmp 7))
 h23:aY (o 23) 28 (.binOp .add ti (.tmp 26) (.tmp 27) ti)
 h24:aY (o 24) 29 (.move (.tmp 0))
 h25:aY (o 25) 30 (.call {callee:= .builtin .cap,args:= #[.tmp 29],argTypes:= #[t]})
 h26:aY (o 26) 31 (.binOp .gtr ti (.tmp 28) (.tmp 30) ti)
 h27:aY (o 27) 32 (.move (.tmp 0))
 h28:aY (o 28) 33 (.move (.tmp 1))
 h29:aY (o 29) 34 (.slice t (.tmp 32) none (some (.tmp 33)) none)
 ZY:aY (o 30) 35 (.move (.tmp 8))
 h31:aY (o 31) 36 (.move (.tmp 7))
 h32:aY (o 32) 37 (.binOp .add ti (.tmp 35) (.tmp 36) ti)
 h33:aY (o 33) 38 (.move (.tmp 1))
 h34:aY (o 34) 39 (.binOp .sub ti (.tmp 37) (.tmp 38) ti)
 h35:aY (o 35) 40 (.call {callee:= .builtin .append,args:= #[.tmp 34,.tmp 39],argTypes:= #[t,ti]})
 h36:aY (o 36) 9 (.assign (.tmp 40))
 h37:aY (o 37) 41 (.move (.tmp 9))
 h38:aY (o 38) 42 (.move (.tmp 1))
 h39:aY (o 39) 43 (.slice t (.tmp 41) (some (.tmp 42)) none none)
 h40:aY (o 40) 44 (.move (.tmp 2))
 h41:aY (o 41) 45 (.call {callee:= .builtin .copy,args:= #[.tmp 43,.tmp 44],argTypes:= #[t,t]})
 h42:aY (o 42) 46 (.move (.tmp 9))
 h43:aY (o 43) 47 (.move (.tmp 1))
 h44:aY (o 44) 48 (.move (.tmp 7))
 h45:aY (o 45) 49 (.binOp .add ti (.tmp 47) (.tmp 48) ti)
 h46:aY (o 46) 50 (.slice t (.tmp 46) (some (.tmp 49)) none none)
 h47:aY (o 47) 51 (.move (.tmp 0))
 h48:aY (o 48) 52 (.move (.tmp 1))
 h49:aY (o 49) 53 (.slice t (.tmp 51) (some (.tmp 52)) none none)
 h50:aY (o 50) 54 (.call {callee:= .builtin .copy,args:= #[.tmp 50,.tmp 53],argTypes:= #[t,t]})
 h51:aY (o 51) 55 (.move (.tmp 9))
 h52:aY (o 52) 6 (.assign (.tmp 55))
 h53:aY (o 53) 56 (.move (.tmp 0))
 h54:aY (o 54) 57 (.move (.tmp 8))
 h55:aY (o 55) 58 (.move (.tmp 7))
 h56:aY (o 56) 59 (.binOp .add ti (.tmp 57) (.tmp 58) ti)
 h57:aY (o 57) 60 (.slice t (.tmp 56) none (some (.tmp 59)) none)
 h58:aY (o 58) 0 (.assign (.tmp 60))
 h59:aY (o 59) 61 (.move (.tmp 2))
 h60:aY (o 60) 62 (.move (.tmp 0))
 h61:aY (o 61) 63 (.move (.tmp 1))
 h62:aY (o 62) 64 (.move (.tmp 7))
 h63:aY (o 63) 65 (.binOp .add ti (.tmp 63) (.tmp 64) ti)
 h64:aY (o 64) 66 (.slice t (.tmp 62) (some (.tmp 65)) none none)
 h65:aY (o 65) 67 (.call {callee:= .value (.func fo),args:= #[.tmp 61,.tmp 66],argTypes:= #[t,t]})
 h66:aY (o 66) 68 (.unOp .not tb (.tmp 67))
 h67:aY (o 67) 69 (.move (.tmp 0))
 h68:aY (o 68) 70 (.move (.tmp 1))
 h69:aY (o 69) 71 (.move (.tmp 7))
 h70:aY (o 70) 72 (.binOp .add ti (.tmp 70) (.tmp 71) ti)
 h71:aY (o 71) 73 (.slice t (.tmp 69) (some (.tmp 72)) none none)
 h72:aY (o 72) 74 (.move (.tmp 0))
 h73:aY (o 73) 75 (.move (.tmp 1))
 h74:aY (o 74) 76 (.slice t (.tmp 74) (some (.tmp 75)) none none)
 h75:aY (o 75) 77 (.call {callee:= .builtin .copy,args:= #[.tmp 73,.tmp 76],argTypes:= #[t,t]})
 h76:aY (o 76) 78 (.move (.tmp 0))
 h77:aY (o 77) 79 (.move (.tmp 1))
 h78:aY (o 78) 80 (.slice t (.tmp 78) (some (.tmp 79)) none none)
 h79:aY (o 79) 81 (.move (.tmp 2))
 h80:aY (o 80) 82 (.call {callee:= .builtin .copy,args:= #[.tmp 80,.tmp 81],argTypes:= #[t,t]})
 h81:aY (o 81) 83 (.move (.tmp 0))
 h82:aY (o 82) 6 (.assign (.tmp 83))
 d11:UT #[o 42,o 43,o 44,o 45,o 46,o 47,o 48,o 49,o 50]=true
 d15:UT #[o 67,o 68,o 69,o 70,o 71,o 72,o 73,o 74,o 75]=true
structure IU (P:Program) (f t ti tb el fo:Nat) (fn:Func) (r:Nat->Nat) (o:Nat->Oper) (tail:Code):Prop where
 pos:P.funcs[f]? =some fn
 name:(fn.name== "runtime.NumGoroutine")=false
 tmps:fn.ntmps=95
 res:fn.results= #[.tmp 6]
 body:fn.body=some (xM r o tail)
 ops:ahY t ti tb fo o
 mix:P.follows .mixedOrders=true
 xp:P.underlying t=some (.slice el)
section
variable {P:Program}{f t ti tb el fo:Nat}{fn:Func}{r:Nat->Nat}{o:Nat->Oper}{tail:Code}{ie:TypeInfo}{size n m c c2 i g g2:Nat}{ad:Option Addr}{w:World}
theorem NA {a:Act}{w:World} {σ:Nat->Value}{R:Ending->World->Prop}{v:Value}(hr:fn.results= #[.tmp 6])(aM:Tm a 95 σ)(h6:σ 6=v)(h:R (.returned v) w):bodyPost P fn R .ret a w:=by
 refine ⟨aM.defers,v,?_,h⟩;have h2:a.tmps[6]?.getD undef=v:=by have:=aM.get 6;rw [h6] at this;simpa using this
 simp [results,hr,h2]
theorem ady (hf:IU P f t ti tb el fo fn r o tail)(oP:P.info? el=some ie)(vM:ie.size=size)(hm:0<m)(hn:n<=c)(hc:c<2^63)(hnm:n+m<2^63)(hi:i=n){v:Value}{w1:World}(cB: ∀ty,(acN #[t,t] ty #[.slice ad n c,.slice (some ⟨g2,0,none⟩) m c2]).run P w= .ok v w1) :Calls P f #[.slice ad n c,.int .i64 ((i:Nat):Int),.slice (some ⟨g2,0,none⟩) m c2] w λx w'=>x= .returned v/\w'=w1:=by
 refine calls_of_wp hf.pos hf.body ?_;rw [hf.tmps];have key: ∀a:Act,Tm a 95 (zT (zT (zT (λ_=>undef) 0 (.slice ad n c)) 1 (.int .i64 ((i:Nat):Int))) 2 (.slice (some ⟨g2,0,none⟩) m c2))->(xM r o tail).wp P (bodyPost P fn λx w'=>x= .returned v/\w'=w1) a w:=by intro a aM;unfold xM;refine wp_seq (wp_region ?_);rw [show c9 (#[o 0]:Array Oper).size=[0] from rfl];refine aM.step (v:= .slice none 0 0) rfl hf.ops.h0 (by decide) (dC hf.ops.h0 _) (λa aM=> ?_);refine wp_seq (wp_region ?_);rw [show c9 (#[o 1,o 2,o 3]:Array Oper).size=[0,1,2] from rfl];refine aM.step (v:= .slice ad n c) rfl hf.ops.h1 (by decide) (aX hf.ops.h1 _) (λa aM=> ?_);refine aM.step (v:= .int .i64 ((i:Nat):Int)) rfl hf.ops.h2 (by decide) (aX hf.ops.h2 _) (λa aM=> ?_);refine aM.step (v:= .slice (if c=i then ad else (ad:Option Addr).map (·.add (i *size))) (n-i) (c-i)) rfl hf.ops.h3 (by decide) (zV hf.ops.h3 hf.xp oP vM rfl rfl (by omega) _) (λa aM=> ?_);refine wp_seq (wp_region ?_);rw [show c9 (#[o 4,o 5,o 6]:Array Oper).size=[0,1,2] from rfl];refine aM.step (v:= .slice (some ⟨g2,0,none⟩) m c2) rfl hf.ops.h4 (by decide) (aX hf.ops.h4 _) (λa aM=> ?_);refine aM.step (v:= .int .i64 ((m:Nat):Int)) rfl hf.ops.h5 (by decide) (nJ hf.ops.h5 hf.xp rfl _) (λa aM=> ?_);refine aM.step (v:= .int .i64 ((m:Nat):Int)) rfl hf.ops.h6 (by decide) (dC hf.ops.h6 _) (λa aM=> ?_);refine wp_seq ?_;refine wp_seq (wp_region ?_);rw [show c9 (#[o 7,o 8]:Array Oper).size=[0,1] from rfl];refine aM.step (v:= .int .i64 ((m:Nat):Int)) rfl hf.ops.h7 (by decide) (aX hf.ops.h7 _) (λa aM=> ?_);refine aM.step (v:= .bool (decide (((m:Nat):Int)=((0:Nat):Int)))) rfl hf.ops.h8 (by decide) (qJ hf.ops.h8 rfl rfl _) (λa aM=> ?_);refine aM.cond (b:=false) (by show acj (decide (((m:Nat):Int)=((0:Nat):Int)))=_;rw [decide_eq_false (by omega)]) ?_;simp only [By,if_false];refine wp_skip ?_;refine wp_seq (wp_region ?_);rw [show c9 (#[o 11,o 12,o 13]:Array Oper).size=[0,1,2] from rfl];refine aM.step (v:= .slice ad n c) rfl hf.ops.SW (by decide) (aX hf.ops.SW _) (λa aM=> ?_);refine aM.step (v:= .int .i64 ((n:Nat):Int)) rfl hf.ops.SX (by decide) (nJ hf.ops.SX hf.xp rfl _) (λa aM=> ?_);refine aM.step (v:= .int .i64 ((n:Nat):Int)) rfl hf.ops.SY (by decide) (dC hf.ops.SY _) (λa aM=> ?_);refine wp_seq ?_;refine wp_seq (wp_region ?_);rw [show c9 (#[o 14,o 15,o 16]:Array Oper).size=[0,1,2] from rfl];refine aM.step (v:= .int .i64 ((i:Nat):Int)) rfl hf.ops.SZ (by decide) (aX hf.ops.SZ _) (λa aM=> ?_);refine aM.step (v:= .int .i64 ((n:Nat):Int)) rfl hf.ops.O5 (by decide) (aX hf.ops.O5 _) (λa aM=> ?_);refine aM.step (v:= .bool (decide (((i:Nat):Int)=((n:Nat):Int)))) rfl hf.ops.S0 (by decide) (qJ hf.ops.S0 rfl rfl _) (λa aM=> ?_);refine aM.cond (b:=true) (by show acj (decide (((i:Nat):Int)=((n:Nat):Int)))=_;rw [decide_eq_true (by omega)]) ?_;simp only [if_true];refine wp_seq (wp_region ?_);rw [show c9 (#[o 17,o 18,o 19,o 20]:Array Oper).size=[0,1,2,3] from rfl];refine aM.step (v:= .slice ad n c) rfl hf.ops.ZX (by decide) (aX hf.ops.ZX _) (λa aM=> ?_);refine aM.step (v:= .slice (some ⟨g2,0,none⟩) m c2) rfl hf.ops.h18 (by decide) (aX hf.ops.h18 _) (λa aM=> ?_);refine aM.step (v:=v) rfl hf.ops.h19 (by decide) (IR hf.ops.h19 rfl rfl (cB _)) (λa aM=> ?_);refine aM.step (v:=v) rfl hf.ops.h20 (by decide) (dC hf.ops.h20 _) (λa aM=> ?_);refine wp_ret ?_;show bodyPost P fn (λx wq=>x= .returned (v)/\wq=w1) .ret a w1;refine NA hf.res aM (v:=v) rfl ?_;exact ⟨rfl,rfl⟩
 exact key _ (tm3 _ _ _ 92)
theorem ZZ (hf:IU P f t ti tb el fo fn r o tail)(oP:P.info? el=some ie)(vM:ie.size=size)(hm:0<m)(hn:n<=c)(hc:c<2^63)(hnm:n+m<2^63)(hi:i<n)(uS:c<n+m){g9 G:Nat}{v1 v2:Value}{w1 w2 w3:World}(hG:n+m<=G)(hA: ∀ty,(acN #[t,ti] ty #[.slice (some ⟨g,0,none⟩) i c,.int .i64 ((n+m-i:Nat):Int)]).run P w= .ok (.slice (some ⟨g9,0,none⟩) (n+m) G) w1)(hB: ∀ty,(acx #[t,t] ty #[.slice (some ⟨g9,i *size,none⟩) (n+m-i) (G-i),.slice (some ⟨g2,0,none⟩) m c2]).run P w1= .ok v1 w2)(hC: ∀ty,(acx #[t,t] ty #[.slice (some ⟨g9,(i+m) *size,none⟩) (n+m-(i+m)) (G-(i+m)),.slice (some ⟨g,i *size,none⟩) (n-i) (c-i)]).run P {w2 with drawn:=w2.drawn+1}= .ok v2 w3) :Calls P f #[.slice (some ⟨g,0,none⟩) n c,.int .i64 ((i:Nat):Int),.slice (some ⟨g2,0,none⟩) m c2] w λx w'=>x= .returned (.slice (some ⟨g9,0,none⟩) (n+m) G)/\w'=w3:=by
 refine calls_of_wp hf.pos hf.body ?_;rw [hf.tmps];have key: ∀a:Act,Tm a 95 (zT (zT (zT (λ_=>undef) 0 (.slice (some ⟨g,0,none⟩) n c)) 1 (.int .i64 ((i:Nat):Int))) 2 (.slice (some ⟨g2,0,none⟩) m c2))->(xM r o tail).wp P (bodyPost P fn λx w'=>x= .returned (.slice (some ⟨g9,0,none⟩) (n+m) G)/\w'=w3) a w:=by intro a aM;unfold xM;refine wp_seq (wp_region ?_);rw [show c9 (#[o 0]:Array Oper).size=[0] from rfl];refine aM.step (v:= .slice none 0 0) rfl hf.ops.h0 (by decide) (dC hf.ops.h0 _) (λa aM=> ?_);refine wp_seq (wp_region ?_);rw [show c9 (#[o 1,o 2,o 3]:Array Oper).size=[0,1,2] from rfl];refine aM.step (v:= .slice (some ⟨g,0,none⟩) n c) rfl hf.ops.h1 (by decide) (aX hf.ops.h1 _) (λa aM=> ?_);refine aM.step (v:= .int .i64 ((i:Nat):Int)) rfl hf.ops.h2 (by decide) (aX hf.ops.h2 _) (λa aM=> ?_);refine aM.step (v:= .slice (if c=i then (some ⟨g,0,none⟩) else ((some ⟨g,0,none⟩):Option Addr).map (·.add (i *size))) (n-i) (c-i)) rfl hf.ops.h3 (by decide) (zV hf.ops.h3 hf.xp oP vM rfl rfl (by omega) _) (λa aM=> ?_);refine wp_seq (wp_region ?_);rw [show c9 (#[o 4,o 5,o 6]:Array Oper).size=[0,1,2] from rfl];refine aM.step (v:= .slice (some ⟨g2,0,none⟩) m c2) rfl hf.ops.h4 (by decide) (aX hf.ops.h4 _) (λa aM=> ?_);refine aM.step (v:= .int .i64 ((m:Nat):Int)) rfl hf.ops.h5 (by decide) (nJ hf.ops.h5 hf.xp rfl _) (λa aM=> ?_);refine aM.step (v:= .int .i64 ((m:Nat):Int)) rfl hf.ops.h6 (by decide) (dC hf.ops.h6 _) (λa aM=> ?_);refine wp_seq ?_;refine wp_seq (wp_region ?_);rw [show c9 (#[o 7,o 8]:Array Oper).size=[0,1] from rfl];refine aM.step (v:= .int .i64 ((m:Nat):Int)) rfl hf.ops.h7 (by decide) (aX hf.ops.h7 _) (λa aM=> ?_);refine aM.step (v:= .bool (decide (((m:Nat):Int)=((0:Nat):Int)))) rfl hf.ops.h8 (by decide) (qJ hf.ops.h8 rfl rfl _) (λa aM=> ?_);refine aM.cond (b:=false) (by show acj (decide (((m:Nat):Int)=((0:Nat):Int)))=_;rw [decide_eq_false (by omega)]) ?_;simp only [By,if_false];refine wp_skip ?_;refine wp_seq (wp_region ?_);rw [show c9 (#[o 11,o 12,o 13]:Array Oper).size=[0,1,2] from rfl];refine aM.step (v:= .slice (some ⟨g,0,none⟩) n c) rfl hf.ops.SW (by decide) (aX hf.ops.SW _) (λa aM=> ?_);refine aM.step (v:= .int .i64 ((n:Nat):Int)) rfl hf.ops.SX (by decide) (nJ hf.ops.SX hf.xp rfl _) (λa aM=> ?_);refine aM.step (v:= .int .i64 ((n:Nat):Int)) rfl hf.ops.SY (by decide) (dC hf.ops.SY _) (λa aM=> ?_);refine wp_seq ?_;refine wp_seq (wp_region ?_);rw [show c9 (#[o 14,o 15,o 16]:Array Oper).size=[0,1,2] from rfl];refine aM.step (v:= .int .i64 ((i:Nat):Int)) rfl hf.ops.SZ (by decide) (aX hf.ops.SZ _) (λa aM=> ?_);refine aM.step (v:= .int .i64 ((n:Nat):Int)) rfl hf.ops.O5 (by decide) (aX hf.ops.O5 _) (λa aM=> ?_);refine aM.step (v:= .bool (decide (((i:Nat):Int)=((n:Nat):Int)))) rfl hf.ops.S0 (by decide) (qJ hf.ops.S0 rfl rfl _) (λa aM=> ?_);refine aM.cond (b:=false) (by show acj (decide (((i:Nat):Int)=((n:Nat):Int)))=_;rw [decide_eq_false (by omega)]) ?_;simp only [By,if_false];refine wp_skip ?_;refine wp_seq ?_;refine wp_seq (wp_region ?_);rw [show c9 (#[o 21,o 22,o 23,o 24,o 25,o 26]:Array Oper).size=[0,1,2,3,4,5] from rfl];refine aM.step (v:= .int .i64 ((n:Nat):Int)) rfl hf.ops.h21 (by decide) (aX hf.ops.h21 _) (λa aM=> ?_);refine aM.step (v:= .int .i64 ((m:Nat):Int)) rfl hf.ops.h22 (by decide) (aX hf.ops.h22 _) (λa aM=> ?_);refine aM.step (v:= .int .i64 ((n+m:Nat):Int)) rfl hf.ops.h23 (by decide) (kU hf.ops.h23 rfl rfl (by omega) _) (λa aM=> ?_);refine aM.step (v:= .slice (some ⟨g,0,none⟩) n c) rfl hf.ops.h24 (by decide) (aX hf.ops.h24 _) (λa aM=> ?_);refine aM.step (v:= .int .i64 ((c:Nat):Int)) rfl hf.ops.h25 (by decide) (UR hf.ops.h25 hf.xp rfl _) (λa aM=> ?_);refine aM.step (v:= .bool (decide (((c:Nat):Int)<(((n+m):Nat):Int)))) rfl hf.ops.h26 (by decide) (Qb hf.ops.h26 rfl rfl _) (λa aM=> ?_);refine aM.cond (b:=true) (by show acj (decide (((c:Nat):Int)<((n+m:Nat):Int)))=_;rw [decide_eq_true (by omega)]) ?_;simp only [if_true];refine wp_seq (wp_region ?_);rw [show c9 (#[o 27,o 28,o 29,o 30,o 31,o 32,o 33,o 34,o 35,o 36]:Array Oper).size=[0,1,2,3,4,5,6,7,8,9] from rfl];refine aM.step (v:= .slice (some ⟨g,0,none⟩) n c) rfl hf.ops.h27 (by decide) (aX hf.ops.h27 _) (λa aM=> ?_);refine aM.step (v:= .int .i64 ((i:Nat):Int)) rfl hf.ops.h28 (by decide) (aX hf.ops.h28 _) (λa aM=> ?_);refine aM.step (v:= .slice (some ⟨g,0,none⟩) i c) rfl hf.ops.h29 (by decide) (Ds hf.ops.h29 hf.xp oP vM rfl rfl (by omega) _) (λa aM=> ?_);refine aM.step (v:= .int .i64 ((n:Nat):Int)) rfl hf.ops.ZY (by decide) (aX hf.ops.ZY _) (λa aM=> ?_);refine aM.step (v:= .int .i64 ((m:Nat):Int)) rfl hf.ops.h31 (by decide) (aX hf.ops.h31 _) (λa aM=> ?_);refine aM.step (v:= .int .i64 ((n+m:Nat):Int)) rfl hf.ops.h32 (by decide) (kU hf.ops.h32 rfl rfl (by omega) _) (λa aM=> ?_);refine aM.step (v:= .int .i64 ((i:Nat):Int)) rfl hf.ops.h33 (by decide) (aX hf.ops.h33 _) (λa aM=> ?_);refine aM.step (v:= .int .i64 (((n+m)-i:Nat):Int)) rfl hf.ops.h34 (by decide) (ZW hf.ops.h34 rfl rfl (by omega) (by omega) _) (λa aM=> ?_);refine aM.step (v:= .slice (some ⟨g9,0,none⟩) (n+m) G) rfl hf.ops.h35 (by decide) (IR hf.ops.h35 rfl rfl (hA _)) (λa aM=> ?_);refine aM.step (v:= .slice (some ⟨g9,0,none⟩) (n+m) G) rfl hf.ops.h36 (by decide) (dC hf.ops.h36 _) (λa aM=> ?_);refine wp_seq (wp_region ?_);rw [show c9 (#[o 37,o 38,o 39,o 40,o 41]:Array Oper).size=[0,1,2,3,4] from rfl];refine aM.step (v:= .slice (some ⟨g9,0,none⟩) (n+m) G) rfl hf.ops.h37 (by decide) (aX hf.ops.h37 _) (λa aM=> ?_);refine aM.step (v:= .int .i64 ((i:Nat):Int)) rfl hf.ops.h38 (by decide) (aX hf.ops.h38 _) (λa aM=> ?_);refine aM.step (v:= .slice (some ⟨g9,i *size,none⟩) (n+m-i) (G-i)) rfl hf.ops.h39 (by decide) (oq hf.ops.h39 hf.xp oP vM rfl rfl (by omega) (by omega) _) (λa aM=> ?_);refine aM.step (v:= .slice (some ⟨g2,0,none⟩) m c2) rfl hf.ops.h40 (by decide) (aX hf.ops.h40 _) (λa aM=> ?_);refine aM.step (v:=v1) rfl hf.ops.h41 (by decide) (Dt hf.ops.h41 rfl rfl (hB _)) (λa aM=> ?_);refine wp_seq (UW hf.mix hf.ops.d11 (k:=8) rfl λiu=> ?_);refine aM.draw (v:= .slice (some ⟨g9,0,none⟩) (n+m) G) rfl hf.ops.h42 (by decide) iu (λw=>aX hf.ops.h42 _) (λa aM iu=> ?_);refine aM.draw (v:= .int .i64 ((i:Nat):Int)) rfl hf.ops.h43 (by decide) iu (λw=>aX hf.ops.h43 _) (λa aM iu=> ?_);refine aM.draw (v:= .int .i64 ((m:Nat):Int)) rfl hf.ops.h44 (by decide) iu (λw=>aX hf.ops.h44 _) (λa aM iu=> ?_);refine aM.draw (v:= .int .i64 ((i+m:Nat):Int)) rfl hf.ops.h45 (by decide) iu (λw=>kU hf.ops.h45 rfl rfl (by omega) _) (λa aM iu=> ?_);refine aM.draw (v:= .slice (some ⟨g9,(i+m) *size,none⟩) (n+m-(i+m)) (G-(i+m))) rfl hf.ops.h46 (by decide) iu (λw=>oq hf.ops.h46 hf.xp oP vM rfl rfl (by omega) (by omega) _) (λa aM iu=> ?_);refine aM.draw (v:= .slice (some ⟨g,0,none⟩) n c) rfl hf.ops.h47 (by decide) iu (λw=>aX hf.ops.h47 _) (λa aM iu=> ?_);refine aM.draw (v:= .int .i64 ((i:Nat):Int)) rfl hf.ops.h48 (by decide) iu (λw=>aX hf.ops.h48 _) (λa aM iu=> ?_);refine aM.draw (v:= .slice (some ⟨g,i *size,none⟩) (n-i) (c-i)) rfl hf.ops.h49 (by decide) iu (λw=>oq hf.ops.h49 hf.xp oP vM rfl rfl (by omega) (by omega) _) (λa aM iu=> ?_);refine aM.last (v:=v2) rfl hf.ops.h50 (by decide) iu (Dt hf.ops.h50 rfl rfl (hC _)) (λa aM=> ?_);refine wp_seq (wp_region ?_);rw [show c9 (#[o 51,o 52]:Array Oper).size=[0,1] from rfl];refine aM.step (v:= .slice (some ⟨g9,0,none⟩) (n+m) G) rfl hf.ops.h51 (by decide) (aX hf.ops.h51 _) (λa aM=> ?_);refine aM.step (v:= .slice (some ⟨g9,0,none⟩) (n+m) G) rfl hf.ops.h52 (by decide) (dC hf.ops.h52 _) (λa aM=> ?_);refine wp_ret ?_;show bodyPost P fn (λx wq=>x= .returned (.slice (some ⟨g9,0,none⟩) (n+m) G)/\wq=w3) .ret a w3;refine NA hf.res aM (v:= .slice (some ⟨g9,0,none⟩) (n+m) G) rfl ?_;exact ⟨rfl,rfl⟩
 exact key _ (tm3 _ _ _ 92)
theorem Z3 (hf:IU P f t ti tb el fo fn r o tail)(oP:P.info? el=some ie)(vM:ie.size=size)(hm:0<m)(hn:n<=c)(hc:c<2^63)(hnm:n+m<2^63)(hi:i<n)(uS:n+m<=c){v1 v2:Value}{w1 w2:World}(hO:(callFunc fo #[.slice (some ⟨g2,0,none⟩) m c2,.slice (some ⟨g,(i+m) *size,none⟩) (n+m-(i+m)) (c-(i+m))]).run P w= .ok (.value (.bool false)) w)(hB: ∀ty,(acx #[t,t] ty #[.slice (some ⟨g,(i+m) *size,none⟩) (n+m-(i+m)) (c-(i+m)),.slice (some ⟨g,i *size,none⟩) (n+m-i) (c-i)]).run P {w with drawn:=w.drawn+1}= .ok v1 w1) (hC: ∀ty,(acx #[t,t] ty #[.slice (some ⟨g,i *size,none⟩) (n+m-i) (c-i),.slice (some ⟨g2,0,none⟩) m c2]).run P w1= .ok v2 w2) :Calls P f #[.slice (some ⟨g,0,none⟩) n c,.int .i64 ((i:Nat):Int),.slice (some ⟨g2,0,none⟩) m c2] w λx w'=>x= .returned (.slice (some ⟨g,0,none⟩) (n+m) c)/\w'=w2:=by
 refine calls_of_wp hf.pos hf.body ?_;rw [hf.tmps];have key: ∀a:Act,Tm a 95 (zT (zT (zT (λ_=>undef) 0 (.slice (some ⟨g,0,none⟩) n c)) 1 (.int .i64 ((i:Nat):Int))) 2 (.slice (some ⟨g2,0,none⟩) m c2))->(xM r o tail).wp P (bodyPost P fn λx w'=>x= .returned (.slice (some ⟨g,0,none⟩) (n+m) c)/\w'=w2) a w:=by intro a aM;unfold xM;refine wp_seq (wp_region ?_);rw [show c9 (#[o 0]:Array Oper).size=[0] from rfl];refine aM.step (v:= .slice none 0 0) rfl hf.ops.h0 (by decide) (dC hf.ops.h0 _) (λa aM=> ?_);refine wp_seq (wp_region ?_);rw [show c9 (#[o 1,o 2,o 3]:Array Oper).size=[0,1,2] from rfl];refine aM.step (v:= .slice (some ⟨g,0,none⟩) n c) rfl hf.ops.h1 (by decide) (aX hf.ops.h1 _) (λa aM=> ?_);refine aM.step (v:= .int .i64 ((i:Nat):Int)) rfl hf.ops.h2 (by decide) (aX hf.ops.h2 _) (λa aM=> ?_);refine aM.step (v:= .slice (if c=i then (some ⟨g,0,none⟩) else ((some ⟨g,0,none⟩):Option Addr).map (·.add (i *size))) (n-i) (c-i)) rfl hf.ops.h3 (by decide) (zV hf.ops.h3 hf.xp oP vM rfl rfl (by omega) _) (λa aM=> ?_);refine wp_seq (wp_region ?_);rw [show c9 (#[o 4,o 5,o 6]:Array Oper).size=[0,1,2] from rfl];refine aM.step (v:= .slice (some ⟨g2,0,none⟩) m c2) rfl hf.ops.h4 (by decide) (aX hf.ops.h4 _) (λa aM=> ?_);refine aM.step (v:= .int .i64 ((m:Nat):Int)) rfl hf.ops.h5 (by decide) (nJ hf.ops.h5 hf.xp rfl _) (λa aM=> ?_);refine aM.step (v:= .int .i64 ((m:Nat):Int)) rfl hf.ops.h6 (by decide) (dC hf.ops.h6 _) (λa aM=> ?_);refine wp_seq ?_;refine wp_seq (wp_region ?_);rw [show c9 (#[o 7,o 8]:Array Oper).size=[0,1] from rfl];refine aM.step (v:= .int .i64 ((m:Nat):Int)) rfl hf.ops.h7 (by decide) (aX hf.ops.h7 _) (λa aM=> ?_);refine aM.step (v:= .bool (decide (((m:Nat):Int)=((0:Nat):Int)))) rfl hf.ops.h8 (by decide) (qJ hf.ops.h8 rfl rfl _) (λa aM=> ?_);refine aM.cond (b:=false) (by show acj (decide (((m:Nat):Int)=((0:Nat):Int)))=_;rw [decide_eq_false (by omega)]) ?_;simp only [By,if_false];refine wp_skip ?_;refine wp_seq (wp_region ?_);rw [show c9 (#[o 11,o 12,o 13]:Array Oper).size=[0,1,2] from rfl];refine aM.step (v:= .slice (some ⟨g,0,none⟩) n c) rfl hf.ops.SW (by decide) (aX hf.ops.SW _) (λa aM=> ?_);refine aM.step (v:= .int .i64 ((n:Nat):Int)) rfl hf.ops.SX (by decide) (nJ hf.ops.SX hf.xp rfl _) (λa aM=> ?_);refine aM.step (v:= .int .i64 ((n:Nat):Int)) rfl hf.ops.SY (by decide) (dC hf.ops.SY _) (λa aM=> ?_);refine wp_seq ?_;refine wp_seq (wp_region ?_);rw [show c9 (#[o 14,o 15,o 16]:Array Oper).size=[0,1,2] from rfl];refine aM.step (v:= .int .i64 ((i:Nat):Int)) rfl hf.ops.SZ (by decide) (aX hf.ops.SZ _) (λa aM=> ?_);refine aM.step (v:= .int .i64 ((n:Nat):Int)) rfl hf.ops.O5 (by decide) (aX hf.ops.O5 _) (λa aM=> ?_);refine aM.step (v:= .bool (decide (((i:Nat):Int)=((n:Nat):Int)))) rfl hf.ops.S0 (by decide) (qJ hf.ops.S0 rfl rfl _) (λa aM=> ?_);refine aM.cond (b:=false) (by show acj (decide (((i:Nat):Int)=((n:Nat):Int)))=_;rw [decide_eq_false (by omega)]) ?_;simp only [By,if_false];refine wp_skip ?_;refine wp_seq ?_;refine wp_seq (wp_region ?_);rw [show c9 (#[o 21,o 22,o 23,o 24,o 25,o 26]:Array Oper).size=[0,1,2,3,4,5] from rfl];refine aM.step (v:= .int .i64 ((n:Nat):Int)) rfl hf.ops.h21 (by decide) (aX hf.ops.h21 _) (λa aM=> ?_);refine aM.step (v:= .int .i64 ((m:Nat):Int)) rfl hf.ops.h22 (by decide) (aX hf.ops.h22 _) (λa aM=> ?_);refine aM.step (v:= .int .i64 ((n+m:Nat):Int)) rfl hf.ops.h23 (by decide) (kU hf.ops.h23 rfl rfl (by omega) _) (λa aM=> ?_);refine aM.step (v:= .slice (some ⟨g,0,none⟩) n c) rfl hf.ops.h24 (by decide) (aX hf.ops.h24 _) (λa aM=> ?_);refine aM.step (v:= .int .i64 ((c:Nat):Int)) rfl hf.ops.h25 (by decide) (UR hf.ops.h25 hf.xp rfl _) (λa aM=> ?_);refine aM.step (v:= .bool (decide (((c:Nat):Int)<(((n+m):Nat):Int)))) rfl hf.ops.h26 (by decide) (Qb hf.ops.h26 rfl rfl _) (λa aM=> ?_);refine aM.cond (b:=false) (by show acj (decide (((c:Nat):Int)<((n+m:Nat):Int)))=_;rw [decide_eq_false (by omega)]) ?_;simp only [By,if_false];refine wp_skip ?_;refine wp_seq (wp_region ?_);rw [show c9 (#[o 53,o 54,o 55,o 56,o 57,o 58]:Array Oper).size=[0,1,2,3,4,5] from rfl];refine aM.step (v:= .slice (some ⟨g,0,none⟩) n c) rfl hf.ops.h53 (by decide) (aX hf.ops.h53 _) (λa aM=> ?_);refine aM.step (v:= .int .i64 ((n:Nat):Int)) rfl hf.ops.h54 (by decide) (aX hf.ops.h54 _) (λa aM=> ?_);refine aM.step (v:= .int .i64 ((m:Nat):Int)) rfl hf.ops.h55 (by decide) (aX hf.ops.h55 _) (λa aM=> ?_);refine aM.step (v:= .int .i64 ((n+m:Nat):Int)) rfl hf.ops.h56 (by decide) (kU hf.ops.h56 rfl rfl (by omega) _) (λa aM=> ?_);refine aM.step (v:= .slice (some ⟨g,0,none⟩) (n+m) c) rfl hf.ops.h57 (by decide) (Ds hf.ops.h57 hf.xp oP vM rfl rfl (by omega) _) (λa aM=> ?_);refine aM.step (v:= .slice (some ⟨g,0,none⟩) (n+m) c) rfl hf.ops.h58 (by decide) (dC hf.ops.h58 _) (λa aM=> ?_);refine wp_seq ?_;refine wp_seq (wp_region ?_);rw [show c9 (#[o 59,o 60,o 61,o 62,o 63,o 64,o 65,o 66]:Array Oper).size=[0,1,2,3,4,5,6,7] from rfl];refine aM.step (v:= .slice (some ⟨g2,0,none⟩) m c2) rfl hf.ops.h59 (by decide) (aX hf.ops.h59 _) (λa aM=> ?_);refine aM.step (v:= .slice (some ⟨g,0,none⟩) (n+m) c) rfl hf.ops.h60 (by decide) (aX hf.ops.h60 _) (λa aM=> ?_);refine aM.step (v:= .int .i64 ((i:Nat):Int)) rfl hf.ops.h61 (by decide) (aX hf.ops.h61 _) (λa aM=> ?_);refine aM.step (v:= .int .i64 ((m:Nat):Int)) rfl hf.ops.h62 (by decide) (aX hf.ops.h62 _) (λa aM=> ?_);refine aM.step (v:= .int .i64 ((i+m:Nat):Int)) rfl hf.ops.h63 (by decide) (kU hf.ops.h63 rfl rfl (by omega) _) (λa aM=> ?_);refine aM.step (v:= .slice (some ⟨g,(i+m) *size,none⟩) (n+m-(i+m)) (c-(i+m))) rfl hf.ops.h64 (by decide) (oq hf.ops.h64 hf.xp oP vM rfl rfl (by omega) (by omega) _) (λa aM=> ?_);refine aM.step (v:= .bool false) rfl hf.ops.h65 (by decide) (adw hf.ops.h65 rfl rfl rfl hO) (λa aM=> ?_);refine aM.step (v:= .bool (!false)) rfl hf.ops.h66 (by decide) (US hf.ops.h66 rfl _) (λa aM=> ?_);refine aM.cond (b:=true) rfl ?_;simp only [if_true];refine wp_seq (UW hf.mix hf.ops.d15 (k:=8) rfl λiu=> ?_);refine aM.draw (v:= .slice (some ⟨g,0,none⟩) (n+m) c) rfl hf.ops.h67 (by decide) iu (λw=>aX hf.ops.h67 _) (λa aM iu=> ?_);refine aM.draw (v:= .int .i64 ((i:Nat):Int)) rfl hf.ops.h68 (by decide) iu (λw=>aX hf.ops.h68 _) (λa aM iu=> ?_);refine aM.draw (v:= .int .i64 ((m:Nat):Int)) rfl hf.ops.h69 (by decide) iu (λw=>aX hf.ops.h69 _) (λa aM iu=> ?_);refine aM.draw (v:= .int .i64 ((i+m:Nat):Int)) rfl hf.ops.h70 (by decide) iu (λw=>kU hf.ops.h70 rfl rfl (by omega) _) (λa aM iu=> ?_);refine aM.draw (v:= .slice (some ⟨g,(i+m) *size,none⟩) (n+m-(i+m)) (c-(i+m))) rfl hf.ops.h71 (by decide) iu (λw=>oq hf.ops.h71 hf.xp oP vM rfl rfl (by omega) (by omega) _) (λa aM iu=> ?_);refine aM.draw (v:= .slice (some ⟨g,0,none⟩) (n+m) c) rfl hf.ops.h72 (by decide) iu (λw=>aX hf.ops.h72 _) (λa aM iu=> ?_);refine aM.draw (v:= .int .i64 ((i:Nat):Int)) rfl hf.ops.h73 (by decide) iu (λw=>aX hf.ops.h73 _) (λa aM iu=> ?_);refine aM.draw (v:= .slice (some ⟨g,i *size,none⟩) (n+m-i) (c-i)) rfl hf.ops.h74 (by decide) iu (λw=>oq hf.ops.h74 hf.xp oP vM rfl rfl (by omega) (by omega) _) (λa aM iu=> ?_);refine aM.last (v:=v1) rfl hf.ops.h75 (by decide) iu (Dt hf.ops.h75 rfl rfl (hB _)) (λa aM=> ?_);refine wp_seq (wp_region ?_);rw [show c9 (#[o 76,o 77,o 78,o 79,o 80]:Array Oper).size=[0,1,2,3,4] from rfl];refine aM.step (v:= .slice (some ⟨g,0,none⟩) (n+m) c) rfl hf.ops.h76 (by decide) (aX hf.ops.h76 _) (λa aM=> ?_);refine aM.step (v:= .int .i64 ((i:Nat):Int)) rfl hf.ops.h77 (by decide) (aX hf.ops.h77 _) (λa aM=> ?_);refine aM.step (v:= .slice (some ⟨g,i *size,none⟩) (n+m-i) (c-i)) rfl hf.ops.h78 (by decide) (oq hf.ops.h78 hf.xp oP vM rfl rfl (by omega) (by omega) _) (λa aM=> ?_);refine aM.step (v:= .slice (some ⟨g2,0,none⟩) m c2) rfl hf.ops.h79 (by decide) (aX hf.ops.h79 _) (λa aM=> ?_);refine aM.step (v:=v2) rfl hf.ops.h80 (by decide) (Dt hf.ops.h80 rfl rfl (hC _)) (λa aM=> ?_);refine wp_seq (wp_region ?_);rw [show c9 (#[o 81,o 82]:Array Oper).size=[0,1] from rfl];refine aM.step (v:= .slice (some ⟨g,0,none⟩) (n+m) c) rfl hf.ops.h81 (by decide) (aX hf.ops.h81 _) (λa aM=> ?_);refine aM.step (v:= .slice (some ⟨g,0,none⟩) (n+m) c) rfl hf.ops.h82 (by decide) (dC hf.ops.h82 _) (λa aM=> ?_);refine wp_ret ?_;show bodyPost P fn (λx wq=>x= .returned (.slice (some ⟨g,0,none⟩) (n+m) c)/\wq=w2) .ret a w2;refine NA hf.res aM (v:= .slice (some ⟨g,0,none⟩) (n+m) c) rfl ?_;exact ⟨rfl,rfl⟩
 exact key _ (tm3 _ _ _ 92)
end
end Dn
/-
  What slices.Insert does to a slice of its own. Conditions: none.
-/
namespace Dn
open Go
section
variable {key:Nat->Nat} {φ:Ph}{size:Nat}
theorem bx.take {xs:List MV}: ∀{cs:List Value}(i:Nat),bx key φ size cs xs->bx key φ size (cs.take (i *size)) (xs.take i):=by
 induction xs with
 |nil=>intro cs i h;cases h;simp [bx]
 |cons x xs ih=>
  intro cs i h;obtain ⟨v,q,rfl,h1,h2,h3⟩:=h;cases i with
  |zero=>simp [bx]
  |succ i=>
   refine ⟨v,q.take (i *size),?_,h1,h2,ih i h3⟩;rw [ac9,Nat.one_mul,af3,ahG,h1];congr 1
   ·exact aaS (by omega)
   ·congr 1;omega
theorem bx.drop {xs:List MV}: ∀{cs:List Value}(i:Nat),bx key φ size cs xs->bx key φ size (cs.drop (i *size)) (xs.drop i):=by
 induction xs with
 |nil=>intro cs i h;cases h;simp [bx]
 |cons x xs ih=>
  intro cs i h;cases i with
  |zero=>simpa using h
  |succ i=>obtain ⟨v,q,rfl,h1,h2,h3⟩:=h;have:=ih i h3;rw [ac9,Nat.one_mul,af3,List.drop_append,h1,agV (by omega),afH,Nat.add_sub_cancel_left];simpa using this
end
section
variable {P:Program}{c:Ctx}{f:Nat} {W W':World} {φ:Ph}{Z:Nat->Prop} {v0 v':Value}
theorem Ho {ty:Nat}{E:TI}{n:Nat}{cells:List Value}{rs:List MV}(hz: ∀b,W.heap.size<=b->Z b)(ki:B6 φ W)(hE:c.ti ty=some E)(rU:E.dw=[])(Fe:c.sw (c.key f)=ty)(hold: ∀b,b<W.heap.size->some b≠v0.ownBlock->W'.heap[b]? =W.heap[b]?)(we:W.heap.size<=W'.heap.size)(Cb:Rest W W')(RU: ∀b,v0.ownBlock=some b->Z b/\ ∀off,φ b off=none)(eS:W'.ownsRow 0 ty E.size v' n cells)(hn:rs.length=n)(kw:bx c.key φ E.size cells rs)(Sq: ∀b,v'.ownBlock=some b->v0.ownBlock=some b\/W.heap.size<=b): ∃φ',Trans Z φ W φ' W'/\B6 φ' W'/\nb c Z φ' W' (c.key f) v' (.fresh rs):=by
 refine ⟨φ,⟨.refl _,?_,λ_ _ _=>rfl,we,Cb⟩,?_,?_⟩
 ·intro b hb dY;exact hold b dY (λhe=>hb (RU b he.symm).1)
 ·intro b off u hbo;have h1:=ki b off u hbo;have dY:=ab4 W _ h1;rw [ac5 (hold b dY (λhe=>by rw [(RU b he.symm).2 off] at hbo;cases hbo))];exact h1
 ·show dI c (b7.plain Z) (qg c.key φ) W' v' ⟨c.sw (c.key f),false,rs⟩;rw [Fe];refine ⟨E,cells,hE,rU,by rw [hn];exact eS,kw,λbG hb=> ?_⟩;rcases Sq bG hb with h|h
  ·exact ⟨(RU bG h).1,λoff u hu=>(by have hu:φ bG off=some u:=hu;rw [(RU bG h).2 off] at hu;cases hu),λhc=>hc.elim⟩
  ·refine ⟨hz bG h,λoff u hu=> ?_,λhc=>hc.elim⟩;have:=ab4 W _ (ki _ _ _ hu);exact absurd this (by show¬bG<W.heap.size;omega)
theorem adz {A dM:List Value}{cells news:List Value}{p q r:Nat}(hA:A.length=dM.length)(hp:p+news.length=q)(hc:cells.length=r)(Ic:p<=r)(zg:r+news.length<=dM.length)(h1:A.take p=cells.take p)(h2:(A.drop q).take (r-p)=cells.drop p):(A.take p++news++A.drop q).take (r+news.length)=cells.take p++news++cells.drop p:=by
 have hl:(A.take p).length=p:=by rw [AI];omega
 rw [ahG,AS,hl,hp,aaS (by rw [AS,hl];omega),h1];congr 1;rw [show r+news.length-q=r-p by omega];exact h2
theorem Ff {t ti tb el fo:Nat}{fn:Func}{r:Nat->Nat}{o:Nat->Oper}{tail:Code}{I E:TI}{xs ys:List MV}{i:Nat}(hf:IU P f t ti tb el fo fn r o tail)(hT:lW P c.ti)(hI:c.tv t=some I)(hL:I.CW=true)(hE:c.tv I.elem=some E)(vZ:1<=E.bytes)(hel:el=I.elem)(uB:P.underlying ti=some (.int .i64))(Fe:c.sw (c.key f)=I.elem)(hg:c.fj (c.key f)=true)(hov: ∀args w,(callFunc fo args).run P w=((ahH #[t,t] #[tb] args).run P w).andThen λv w'=> .ok (.value v) w')(hi:i<=xs.length)(hys:ys≠[])(oN:(xs.length+ys.length) *E.bytes<=2^46):lX P c f [.fresh xs,.i .i64 i,.fresh ys] (.fresh (xs.take i++ys++xs.drop i)):=by
 subst hel;obtain ⟨hIt,YI⟩:=b8 hI;obtain ⟨oQ,rU⟩:=b8 hE;obtain ⟨hu,E2,zv,_,fm⟩:=TI.nU (hT t I hIt) hL;rw [oQ] at zv;cases zv;obtain ⟨ie,z,oP,vM,hby,hz0,Ss⟩:=sY (hT _ E oQ) rU;intro φ W Z vs hz gm ki;simp only [fS,hg,if_true] at gm;obtain ⟨v0,v1,v2,xs',m1,ys',rfl,Wf,F0,A1,F2,dG⟩:=gm.resolve_right (by
  rintro (⟨_,_,_,_,_,m2,_,h1,h2,_⟩|⟨pos,_,_,_,_,_,_,h1,_⟩)
  ·simp only [adB,and_true] at h1;rw [<-h1.2.2] at h2;simp [MV.one] at h2
  ·rcases pos with _|_|_|pos<;>simp at h1)
 simp only [adB,MV.fresh.injEq,and_true] at Wf;obtain ⟨rfl,rfl,rfl⟩:=Wf;have VV:v1= .int .i64 (i:Int):=by obtain ⟨_,h⟩:=A1;generalize B1:[v1]=l at h;cases h;simpa using B1
 subst VV;rw [Fe] at F0 F2;obtain ⟨I0,cells,hI0,_,wA,u6,L8⟩:=F0;have hI0:c.ti I.elem=some I0:=hI0;rw [oQ] at hI0;cases hI0;obtain ⟨I2,news,RQ,_,LC,Da,arv⟩:=F2;have RQ:c.ti I.elem=some I2:=RQ;rw [oQ] at RQ;cases RQ;have wA:W.ownsRow 0 I.elem E.size v0 xs.length cells:=wA;have LC:W.ownsRow 0 I.elem E.size v2 ys.length news:=LC;have u6:bx c.key φ E.size cells xs:=u6;have Da:bx c.key φ E.size news ys:=Da;have RU: ∀b,v0.ownBlock=some b->Z b/\ ∀off,φ b off=none:=by
  intro b hb;refine ⟨(L8 b hb).1,λoff=> ?_⟩;cases h:φ b off with
  |none=>rfl
  |some u=>have:=((L8 b hb).2.1 off u h).1;cases this
 have hm:0<ys.length:=List.length_pos_iff.2 hys;have Hl:news.length=ys.length *E.size:=Da.length;have sf:cells.length=xs.length *E.size:=u6.length;have hlen:xs.length+ys.length<=2^46:=acT (Nat.le_mul_of_pos_right _ vZ) oN;obtain ⟨g2,c2,wh,rfl,Wt,atn,hc2,Nd,alg⟩: ∃g2 c2 wh,v2= .slice (some ⟨g2,0,none⟩) ys.length c2/\W.heap[g2]? =some (.cells wh I.elem (0,0))/\ys.length<=c2/\c2<=maxLen/\wh.size=c2 *E.size/\wh.toList.take (ys.length *E.size)=news:=by
  rcases LC.2 with ⟨_,h0⟩|⟨g2,c2,wh,h1,_,h3,h4,h5,h6,h7⟩
  ·omega
  ·exact ⟨g2,c2,wh,h1,h3,h4,h5,h6,h7⟩
 have ao2:=bW Wt;have Z4: ∀{w:World},(w.heap[g2]? =W.heap[g2]?)-> ∀(j:Nat) (u:Value),news[j]? =some u->w.cell? ((⟨g2,0,none⟩:Addr).add j)=some u:=by intro w hw j u hj;have:=LC.cells (g:=g2) rfl j u hj;rw [adt] at this⊢;rw [ac5 hw];exact this
 have bR: ∀g,v0.ownBlock=some g-> ∀{w:World},(w.heap[g]? =W.heap[g]?)-> ∀(j:Nat) (u:Value),cells[j]? =some u->w.cell? ((⟨g,0,none⟩:Addr).add j)=some u:=by intro g hg w hw j u hj;have:=wA.cells (g:=g) hg j u hj;rw [adt] at this⊢;rw [ac5 hw];exact this
 have cB:(callFunc f [v0,.int .i64 (i:Int),.slice (some ⟨g2,0,none⟩) ys.length c2].toArray).run P W= .ok (.enter f #[v0,.int .i64 (i:Int),.slice (some ⟨g2,0,none⟩) ys.length c2]) W:=by
  have GL: ¬fn.name= "runtime.NumGoroutine" :=by simpa using hf.name
  simp [callFunc,hf.pos,GL,hf.body]
 unfold ia;rw [cB];have hrl:(xs.take i++ys++xs.drop i).length=xs.length+ys.length:=by simp;omega
 have IV:bx c.key φ E.size (cells.take (i *E.size)++news++cells.drop (i *E.size)) (xs.take i++ys++xs.drop i):=((u6.take i).append Da).append (u6.drop i);by_cases vG:i=xs.length
 ·
  have BJ:Src (qg c.key φ) W E.size (.slice (some ⟨g2,0,none⟩) ys.length c2) ys news:=⟨Da,_,_,rfl,by simp,λx hx j u hj=>by cases hx;exact Z4 rfl j u hj⟩
  have zO:cells.take (i *E.size)++news++cells.drop (i *E.size)=cells++news:=by rw [vG,<-sf,agS,List.drop_length,ahZ]
  rw [zO] at IV;have fin: ∀v' W',aj1 W W' I.elem E.size v0 v' xs.length ys.length cells news-> ∃φ',Trans Z φ W φ' W'/\B6 φ' W'/\nb c Z φ' W' (c.key f) v' (.fresh (xs.take i++ys++xs.drop i)):=by
   intro v' W' wj;refine Ho (v0:=v0) hz ki oQ rU Fe wj.A0 wj.size wj.rest RU wj.own hrl IV ?_;intro b hb;rcases wj.place with h|h
   ·left;rw [<-h];exact hb
   ·right;rw [h] at hb;cases hb;exact OF _
  obtain ⟨v',W',hr,wj⟩:=Ct (P:=P) (c:=c) (ty:=0) hu oQ rU fm hT vZ wA (BJ.apx hu) oN;have hr': ∀ty,(acN #[t,t] ty #[v0,.slice (some ⟨g2,0,none⟩) ys.length c2]).run P W= .ok v' W':=λty=>hr;have ao3: ∃ad c0,v0= .slice ad xs.length c0/\xs.length<=c0/\c0<=maxLen:=by
   rcases wA.2 with ⟨h1,h0⟩|⟨g,c0,dM,h1,_,h3,h4,h5,_⟩
   ·exact ⟨none,0,by rw [h1,h0],by omega,by omega⟩
   ·exact ⟨_,c0,h1,h4,h5⟩
  obtain ⟨ad,c0,rfl,PE,Hj⟩:=ao3;refine (ady hf oP vM hm PE (by unfold maxLen at Hj;omega) (by omega) vG hr').mono ?_;rintro x AZ ⟨rfl,rfl⟩;exact ⟨_,rfl,fin _ _ wj⟩
 ·have vG:i<xs.length:=by omega
  obtain ⟨g,c0,dM,rfl,hgc,PE,Hj,xn,RS⟩: ∃g c0 dM,v0= .slice (some ⟨g,0,none⟩) xs.length c0/\W.heap[g]? =some (.cells dM I.elem (0,0))/\xs.length<=c0/\c0<=maxLen/\dM.size=c0 *E.size/\dM.toList.take (xs.length *E.size)=cells:=by
   rcases wA.2 with ⟨_,h0⟩|⟨g,c0,dM,h1,_,h3,h4,h5,h6,h7⟩
   ·omega
   ·exact ⟨g,c0,dM,h1,h3,h4,h5,h6,h7⟩
  have hgl:=bW hgc;have hgg:g≠g2:=λh=>dG g rfl (by rw [h];rfl);have uX:i *E.size<=xs.length *E.size:=ack _ hi;have him:(i+ys.length) *E.size=i *E.size+news.length:=by rw [ac9,Hl]
  have hnm:(xs.length+ys.length) *E.size=xs.length *E.size+news.length:=by rw [ac9,Hl]
  have LQ:(cells.drop (i *E.size)).length=(xs.length-i) *E.size:=by rw [aaK,sf,afz]
  have ato:(xs.length-i) *E.size=xs.length *E.size-i *E.size:=afz _ _ _;have af9: ∀{w:World},(w.heap[g]? =W.heap[g]?)-> ∀(j:Nat) (u:Value),(cells.drop (i *E.size))[j]? =some u->w.cell? ((⟨g,i *E.size,none⟩:Addr).add j)=some u:=by intro w hw j u hj;rw [acr] at hj;have:=bR g rfl hw _ u hj;rw [adt] at this⊢;rwa [aen] at this
  have ho1: ∀u∈cells.drop (i *E.size),u.oneCell'=true:=λu hu=>u6.Cs u (afB hu);have alj:Rest W {W with drawn:=W.drawn+1}:=⟨rfl,rfl,rfl,λ_=>rfl⟩
  by_cases uS:c0<xs.length+ys.length
  ·have hk:i+(xs.length+ys.length-i)=xs.length+ys.length:=by omega
   obtain ⟨G,hG⟩: ∃G,G=grownCap W (xs.length+ys.length) c0 I.elem:=⟨_,rfl⟩
   have hGn:xs.length+ys.length<=G:=by rw [hG];exact grownCap_ge W _ _ _
   have hGm:G<=maxLen:=by rw [hG];exact grownCap_le_maxLen W _ _ _ (by unfold maxLen;omega)
   obtain ⟨NB,ah2⟩: ∃NB:Array Value,NB=(cells.take (i *E.size)).toArray++acf z.cells (xs.length+ys.length-i)++acf z.cells (G-(xs.length+ys.length)):=⟨_,rfl⟩
   have hRl:NB.size=G *E.size:=by rw [ah2];simp only [Array.size_append,acg,AI,acf,Array.size_map,Array.size_range,Ss];rw [acO (by rw [sf];exact uX),<-ac9,<-ac9];congr 1;omega
   have hRt:NB.toList.take (i *E.size)=cells.take (i *E.size):=by
    rw [ah2];simp only [Array.toList_append,ade];have hl:(cells.take (i *E.size)).length=i *E.size:=by rw [AI,sf];exact acO uX
    rw [aaF (by omega),aaS (by omega)]
   have hA: ∀ty,(acN #[t,ti] ty #[.slice (some ⟨g,0,none⟩) i c0,.int .i64 ((xs.length+ys.length-i:Nat):Int)]).run P W= .ok (.slice (some ⟨W.heap.size,0,none⟩) (xs.length+ys.length) G) (W.drew.alloc (.cells NB I.elem)):=λty=>by
    have hold:(ahx ie.size i (.slice (some ⟨g,0,none⟩) i c0)).run P W.drew= .ok (cells.take (i *E.size)).toArray W.drew:=by
     refine run_firstCells_some W.drew ie.size i ⟨g,0,none⟩ i c0 _ (by rw [vM,AI,sf];exact acO uX) (λj v hj=> ?_);rw [aej] at hj;split at hj
     ·exact bR g rfl rfl j v hj
     ·cases hj
    have h:=Lib.run_append_grow_zeros W t ti ty I.elem ie z .i64 .i64 hu uB oP hz0 (some ⟨g,0,none⟩) i c0 (cells.take (i *E.size)) hold (xs.length+ys.length-i) (by omega) (by rw [vM];exact fm) (by omega) (by omega) (by rw [hby];exact acT (ack _ (by omega:xs.length+ys.length-i<=xs.length+ys.length)) (acT oN (by omega))) (by rw [hby,hk];exact growslice_fits uS (acT oN (by omega)));rw [hk,<-hG,<-ah2] at h;exact h
   have hg9:(W.drew.alloc (.cells NB I.elem)).heap[W.heap.size]? =some (.cells NB I.elem (0,0)):=nF W.drew _;have GP: ∀b,b<W.heap.size->(W.drew.alloc (.cells NB I.elem)).heap[b]? =W.heap[b]? :=λb hb=>AX W.drew _ b hb;have hnG:(xs.length+ys.length) *E.size<=NB.size:=by rw [hRl];exact ack _ hGn
   obtain ⟨RA,hRA⟩: ∃RA:List Value,RA=NB.toList.take (i *E.size)++news++NB.toList.drop (i *E.size+news.length):=⟨_,rfl⟩
   have alk:RA.length=NB.size:=by rw [hRA];simp only [AS,AI,aaK,aar];omega
   have hB: ∀ty,(acx #[t,t] ty #[.slice (some ⟨W.heap.size,i *E.size,none⟩) (xs.length+ys.length-i) (G-i),.slice (some ⟨g2,0,none⟩) ys.length c2]).run P (W.drew.alloc (.cells NB I.elem))= .ok (goInt ((ys.length:Nat):Int)) (adi (W.drew.alloc (.cells NB I.elem)) W.heap.size RA.toArray):=λty=>by rw [hRA];exact qK (size:=E.size) hu oP vM hg9 (by simp only [ahh];split<;>omega) Hl (Z4 (GP g2 ao2)) (by omega) Da.Cs
   have ah3:=setRow_heap (W.drew.alloc (.cells NB I.elem)) W.heap.size NB RA.toArray I.elem (0,0) hg9;obtain ⟨W2,WC⟩: ∃W2,W2=adi (W.drew.alloc (.cells NB I.elem)) W.heap.size RA.toArray:=⟨_,rfl⟩
   have adC: ∀b,b<W.heap.size->W2.heap[b]? =W.heap[b]? :=λb hb=>by rw [WC,setRow_other _ _ _ _ (by omega)];exact GP b hb
   have S1:Rest W W2:=by rw [WC];exact (show Rest W W.drew from ⟨rfl,rfl,rfl,λ_=>rfl⟩).trans ((Rest.alloc W.drew NB I.elem).trans (Rest.setRow _ _ _))
   have atr:W2.heap.size=W.heap.size+1:=by rw [WC,setRow_size];exact Array.size_push _
   rw [<-WC] at hB ah3;have hC:=λty=>qK (P:=P) (dT:=t) (sT:=t) (ty:=ty) (size:=E.size) (adx:=xs.length+ys.length-(i+ys.length)) (ahX:=G-(i+ys.length)) (qf:=xs.length-i) (zL:=c0-i) (k:=xs.length-i) (o:=(i+ys.length) *E.size) (a:=⟨g,i *E.size,none⟩) (w:={W2 with drawn:=W2.drawn+1}) hu oP vM ah3 (by simp only [ahh];split<;>omega) LQ (af9 (adC g hgl)) (by simp only [acg];rw [alk,him,LQ];omega) ho1;refine (ZZ hf oP vM hm PE (by unfold maxLen at Hj;omega) (by omega) vG uS hGn hA hB hC).mono ?_;rintro x AZ ⟨rfl,rfl⟩;refine ⟨_,rfl,?_⟩;refine Ho (v0:= .slice (some ⟨g,0,none⟩) xs.length c0) (n:=xs.length+ys.length) (cells:=cells.take (i *E.size)++news++cells.drop (i *E.size)) hz ki oQ rU Fe ?_ ?_ ?_ RU ?_ hrl IV (λb hb=> .inr (by cases hb;exact OF _))
   ·intro b hb dG;rw [setRow_other _ _ _ _ (by omega)];exact adC b hb
   ·rw [setRow_size];show W.heap.size<=W2.heap.size;omega
   ·exact S1.trans ((show Rest W2 {W2 with drawn:=W2.drawn+1} from ⟨rfl,rfl,rfl,λ_=>rfl⟩).trans (Rest.setRow _ _ _))
   ·refine ⟨by rw [IV.length,hrl],.inr ⟨W.heap.size,G,_,rfl,aco _,setRow_heap {W2 with drawn:=W2.drawn+1} W.heap.size RA.toArray _ I.elem (0,0) ah3,hGn,hGm,?_,?_⟩⟩
    ·simp only [acg,AS,AI,aaK];rw [alk,<-hRl];omega
    ·have ao7:RA.take ((i+ys.length) *E.size)=cells.take (i *E.size)++news:=by
      have hl:(NB.toList.take (i *E.size)++news).length=(i+ys.length) *E.size:=by rw [AS,AI,aar,him];omega
      rw [hRA,aaF (by omega),aaS (by omega),hRt]
     rw [ao7];have sE:(cells.take (i *E.size)++news++cells.drop (i *E.size)).length=(xs.length+ys.length) *E.size:=by rw [IV.length,hrl]
     rw [<-sE];exact ahk
  ·have uS:xs.length+ys.length<=c0:=by omega
   have hcz:dM.toList.length=dM.size:=aar;have zg:(xs.length+ys.length) *E.size<=dM.size:=by rw [xn];exact ack _ uS
   have hO:(callFunc fo #[.slice (some ⟨g2,0,none⟩) ys.length c2,.slice (some ⟨g,(i+ys.length) *E.size,none⟩) (xs.length+ys.length-(i+ys.length)) (c0-(i+ys.length))]).run P W= .ok (.value (.bool false)) W:=by rw [hov,Lib.run_overlaps_apart W t tb I.elem hu E.size (λw=>by simp [af6,typeInfo,oP,vM]) ⟨g2,0,none⟩ ⟨g,(i+ys.length) *E.size,none⟩ _ _ _ _ (ah0 hgg) I.elem I.elem wh.size dM.size (by simp [World.shape?,Wt]) (by simp [World.shape?,hgc]) (by rw [xn];exact Nat.ne_of_gt (Nat.mul_pos (by omega) fm)) (by simp [ais,Wt]) (by simp [ais,Wt])];rfl
   let R1:List Value:=dM.toList.take ((i+ys.length) *E.size)++cells.drop (i *E.size)++dM.toList.drop ((i+ys.length) *E.size+(cells.drop (i *E.size)).length);have hR1:R1.length=dM.size:=by simp only [R1,AS,AI,aaK,aar];rw [LQ] at *;omega
   have hB: ∀ty,(acx #[t,t] ty #[.slice (some ⟨g,(i+ys.length) *E.size,none⟩) (xs.length+ys.length-(i+ys.length)) (c0-(i+ys.length)),.slice (some ⟨g,i *E.size,none⟩) (xs.length+ys.length-i) (c0-i)]).run P {W with drawn:=W.drawn+1}= .ok (goInt ((xs.length-i:Nat):Int)) (adi {W with drawn:=W.drawn+1} g R1.toArray):=λty=>qK (size:=E.size) hu oP vM (w:={W with drawn:=W.drawn+1}) hgc (by simp only [ahh];split<;>omega) LQ (af9 rfl) (by rw [him,LQ];omega) ho1;have ao9:(adi {W with drawn:=W.drawn+1} g R1.toArray).heap[g]? =some (.cells R1.toArray I.elem (0,0)):=setRow_heap {W with drawn:=W.drawn+1} g dM R1.toArray I.elem (0,0) hgc;have adC: ∀b,b≠g->(adi {W with drawn:=W.drawn+1} g R1.toArray).heap[b]? =W.heap[b]? :=λb hb=>setRow_other {W with drawn:=W.drawn+1} g b R1.toArray hb;have hC:=λty=>qK (P:=P) (dT:=t) (sT:=t) (ty:=ty) (size:=E.size) (adx:=xs.length+ys.length-i) (ahX:=c0-i) (qf:=ys.length) (zL:=c2) (k:=ys.length) (o:=i *E.size) (a:=⟨g2,0,none⟩) hu oP vM ao9 (by simp only [ahh];split<;>omega) Hl (Z4 (adC g2 (ah0 hgg))) (by simp only [acg];rw [hR1];omega) Da.Cs;refine (Z3 hf oP vM hm PE (by unfold maxLen at Hj;omega) (by omega) vG uS hO hB hC).mono ?_;rintro x AZ ⟨rfl,rfl⟩;refine ⟨_,rfl,?_⟩;rw [setRow_setRow];have Cb:Rest W (adi {W with drawn:=W.drawn+1} g (R1.toArray.toList.take (i *E.size)++news++R1.toArray.toList.drop (i *E.size+news.length)).toArray):=alj.trans (Rest.setRow _ _ _);refine Ho (v0:= .slice (some ⟨g,0,none⟩) xs.length c0) (n:=xs.length+ys.length) (cells:=cells.take (i *E.size)++news++cells.drop (i *E.size)) hz ki oQ rU Fe ?_ (by simp) Cb RU ?_ hrl IV (λb hb=> .inl hb)
   ·intro b hb dG;refine setRow_other {W with drawn:=W.drawn+1} g b _ (λh=>dG ?_);rw [h];rfl
   ·refine ⟨by rw [IV.length,hrl],.inr ⟨g,c0,_,rfl,aco _,setRow_heap {W with drawn:=W.drawn+1} g dM _ I.elem (0,0) hgc,uS,Hj,?_,?_⟩⟩
    ·simp only [acg,AS,AI,aaK];rw [hR1,<-xn];omega
    ·rw [hnm];refine adz (dM:=dM.toList) (r:=xs.length *E.size) (by simpa using hR1) rfl sf uX (by simp only [aar];omega) ?_ ?_
     ·show R1.take (i *E.size)=_;rw [<-RS,aeo,acO uX];simp only [R1];rw [ade,aaF (by rw [AI,hcz];omega),aeo,acO (by omega)]
     ·show (R1.drop (i *E.size+news.length)).take _=_;simp only [R1];have hl:(dM.toList.take ((i+ys.length) *E.size)).length=i *E.size+news.length:=by rw [AI,hcz];omega
      rw [ade,<-hl,ah1,aaF (by omega),aaS (by omega)]
end
end Dn
/-
  slices.Delete of the library, walked. Conditions: none.
-/
namespace Dn
open Go
structure Gd (o:Oper) (op:Op):Prop where
 dst:o.dst=none
 op:o.op=op
 guard:o.guard=none
section
variable {P:Program}{Q:Exit->Act->World->Prop}{ops:Array Oper}{o:Oper}{a:Act} {w w':World}{n:Nat} {σ:Nat->Value}
theorem Tm.aga {i:Nat}{op:Op}{rest:List Nat}{v:Value}(aM:Tm a n σ)(hi:ops[i]? =some o)(ho:Gd o op)(cB:(execOp (ev σ) o).run P w= .ok (.value v) w')(h:wpOps P ops Q rest a w'):wpOps P ops Q (i::rest) a w:=by refine vL hi ho.guard (v:=v) (w':=w') (by rw [aM.eval];exact cB) ?_;rw [ho.dst];exact h
def IW (ops:Array Oper):Nat->Nat->Array Bool->Bool
 |0,i,listed=>(AT .any ops listed==[i])&&(AT .any ops (listed.setIfInBounds i true)==[i+1])&&(AT .any ops ((listed.setIfInBounds i true).setIfInBounds (i+1) true)).isEmpty
 |k+1,i,listed=>Region.free .any ops listed i&&(AT .any ops listed).contains i&&IW ops k (i+1) (listed.setIfInBounds i true)
def S2 (ops:Array Oper):Bool:=afP ops&&Nat.blt 1 ops.size&&IW ops (ops.size-2) 0 (IS ops.size false)
structure NC (ops:Array Oper) (k i:Nat) (listed:Array Bool):Prop where
 sel:afP ops=true
 ord:IW ops k i listed=true
theorem Tm.L9 {N:Act->World->Prop}{i d:Nat}{op:Op}{k:Nat}{listed:Array Bool}{v:Value}(aM:Tm a n σ)(hi:ops[i]? =some o)(ho:aY o d op)(hd:d<n)(hb:NC ops (k+1) i listed)(cB: ∀w,(execOp (ev σ) o).run P w= .ok (.value v) w)(h: ∀a',Tm a' n (zT σ d v)->NC ops k (i+1) (listed.setIfInBounds i true)->wpAny P .any ops (qi N) (k+2) (listed.setIfInBounds i true) a' w):wpAny P .any ops (qi N) (k+3) listed a w:=by obtain ⟨hs,hb⟩:=hb;simp only [IW,sh] at hb;obtain ⟨⟨h1,h2⟩,h3⟩:=hb;refine wpAny_take hi hs h1 h2 (λc a w hq=>hq.elim) (v:=v) (.inl ⟨by simp [aaq,ho.guard],λw=>by rw [aM.eval];exact cB w⟩) ?_;rw [ho.dst];exact h _ (aM.put hd v) ⟨hs,h3⟩
theorem Tm.alm {N:Act->World->Prop}{i d d2:Nat}{op op2:Op}{o2:Oper}{listed:Array Bool}{v v2:Value}(aM:Tm a n σ)(hi:ops[i]? =some o)(ho:aY o d op)(hd:d<n)(X0:ops[i+1]? =some o2)(dh:aY o2 d2 op2)(X5:d2<n)(hb:NC ops 0 i listed)(cB:(execOp (ev σ) o).run P w= .ok (.value v) w')(LZ:(execOp (ev (zT σ d v)) o2).run P w'= .ok (.value v2) w')(h: ∀a',Tm a' n (zT (zT σ d v) d2 v2)->N a' w'):wpAny P .any ops (qi N) 2 listed a w:=by obtain ⟨hs,hb⟩:=hb;simp only [IW,sh,List.isEmpty_iff,beq_iff_eq] at hb;obtain ⟨⟨h1,h2⟩,h3⟩:=hb;refine wpAny_all h1 (by simp) ?_;intro j hj;simp only [af7] at hj;subst hj;unfold wpOp;simp only [hi,aaq,ho.guard,if_true];left;unfold af1;rw [aM.eval,cB,aeg,ho.dst];have Z5:=aM.put hd v;refine wpAny_all h2 (by simp) ?_;intro q hq;simp only [af7] at hq;subst hq;unfold wpOp;simp only [X0,aaq,dh.guard,if_true];left;unfold af1;rw [Z5.eval,LZ,aeg,dh.dst];exact wpAny_done h3 (h _ (Z5.put X5 v2)) 0
theorem Z6 {id k:Nat}(hm:P.follows .mixedOrders=true)(hb:S2 ops=true)(hk:ops.size=k+2)(h:NC ops k 0 (IS (k+2) false)->wpAny P .any ops (qi λa w=>Q .normal a w) (k+2) (IS (k+2) false) a {w with drawn:=w.drawn+1}): (agk id ops true).wp P Q a w:=by simp only [S2,sh] at hb;rw [hk] at hb;refine agU ?_ (wp_region_any (Q:=qi λa w=>Q .normal a w) hm (by rw [hk];exact h ⟨hb.1.1,hb.2⟩));intro x a' w' hx;cases x<;>first|exact hx|exact hx.elim
theorem Ma {d:Nat}{t el:TypeId}{x y z m3:Operand}{e:Operand->Value}{ad:Option Addr}{m c l h k:Nat}{i:TypeInfo}(ho:aY o d (.slice t x (some y) (some z) (some m3)))(hu:P.underlying t=some (.slice el))(hi:P.info? el=some i)(hx:e x= .slice ad m c)(hy:e y= .int .i64 l)(hz:e z= .int .i64 h)(hm:e m3= .int .i64 k)(h1:l<=h)(h2:h<=k)(h3:k<=c)(w:World):(execOp e o).run P w= .ok (.value (.slice (if k=l then ad else ad.map (·.add (l *i.size))) (h-l) (k-l))) w:=by simp [execOp,ho.op,agr,ahe,run_underlying hu,hx,hy,hz,hm,af6,typeInfo,hi,aem,afx,asIntOf,h1,h2,h3]
theorem Qd {d:Nat}{t el:TypeId}{x y z:Operand}{e:Operand->Value}{ad:Option Addr}{m c l h size:Nat}{i:TypeInfo}(ho:aY o d (.slice t x (some y) (some z) none))(hu:P.underlying t=some (.slice el))(hi:P.info? el=some i)(hs:i.size=size)(hx:e x= .slice ad m c)(hy:e y= .int .i64 l)(hz:e z= .int .i64 h)(h1:l<=h)(h2:h<=c)(w:World):(execOp e o).run P w= .ok (.value (.slice (if c=l then ad else ad.map (·.add (l *size))) (h-l) (c-l))) w:=by simp [execOp,ho.op,agr,ahe,run_underlying hu,hx,hy,hz,af6,typeInfo,hi,hs,aem,afx,asIntOf,h1,h2]
theorem UX {x:Operand}{t1:TypeId}{e:Operand->Value}{v1 v:Value}(ho:Gd o (.call {callee:= .builtin .clear,args:= #[x],argTypes:= #[t1]})) (hx:e x=v1) (h:(aep #[t1] o.type #[v1]).run P w= .ok v w'):(execOp e o).run P w= .ok (.value v) w':=by simp [execOp,ho.op,resolve,invoke,builtin,hx,h]
theorem zW {t ty elem t2:TypeId}{g off n c size:Nat}{z:Value}{dM:Array Value}{i:TypeInfo}(hu:P.underlying t=some (.slice elem))(hi:P.info? elem=some i)(hz:i.zero=some z)(Ss:z.cells.size=size)(h1: ∀v∈z.cells.toList,v.oneCell'=true)(hg:w.heap[g]? =some (.cells dM t2 (0,0)))(hn:0<n)(zg:off+n *size<=dM.size): ∃zs:List Value,zs.length=n *size/\(aep #[t] ty #[.slice (some ⟨g,off,none⟩) n c]).run P w= .ok (.tuple #[]) (w.setRow g (dM.toList.take off++zs++dM.toList.drop (off+zs.length)).toArray):=by
 refine ⟨(acf z.cells n).toList,?_,?_⟩
 ·simp [acf,Ss]
 ·have hl:(acf z.cells n).toList.length=n *size:=by simp [acf,Ss]
  have eR:=run_storeCells_at P g off t2 (acf z.cells n).toList 0 dM w hg (by rw [hl];simpa using zg) (by
   intro v hv;simp only [acf,ags,acb,Array.mem_toList_iff,Array.mem_range] at hv;obtain ⟨j,hj,rfl⟩:=hv;have fm:0<z.cells.size:=by
    rcases Nat.eq_zero_or_pos z.cells.size with h0|h0
    ·rw [h0] at hj;omega
    ·exact h0
   have dY:j%z.cells.size<z.cells.size:=Nat.mod_lt _ fm;rw [getElem!_pos z.cells _ dY];exact h1 _ (by simp))
  simp only [aiA] at eR;obtain ⟨m,rfl⟩: ∃m,n=m+1:=⟨n-1,by omega⟩
  simp [aep,run_underlying hu,zeroValue,typeInfo,hi,hz,eR]
end
theorem wB {w:World}{g:Nat}{dM:Array Value}{t:TypeId}{fr:Nat×Nat}(cs:Array Value)(hg:w.heap[g]? =some (.cells dM t fr)):(w.setRow g cs).heap[g]? =some (.cells cs t fr):=by simp [adi,agZ,hg]
def Du (r:Nat->Nat)(o:Nat->Oper):Code:= .seq (.region (r 0) #[o 0] false) (.seq (.region (r 1) #[o 1,o 2,o 3,o 4,o 5,o 6] false) (.seq (.seq (.region (r 2) #[o 7,o 8,o 9] false) (.cond (.tmp 16) (.seq (.region (r 3) #[o 10,o 11] false) .ret) .skip)) (.seq (.region (r 4) #[o 12,o 13,o 14] false) (.seq (.region (r 5) #[o 15,o 16,o 17,o 18,o 19,o 20,o 21,o 22] true) (.seq (.region (r 6) #[o 23,o 24,o 25,o 26,o 27,o 28] false) (.seq (.region (r 7) #[o 29,o 30] false) .ret))))))
structure ah4 (t ti:Nat) (o:Nat->Oper):Prop where
 h0:aY (o 0) 6 (.assign (.const (.slice none 0 0)))
 h1:aY (o 1) 8 (.move (.tmp 0))
 h2:aY (o 2) 9 (.move (.tmp 1))
 h3:aY (o 3) 10 (.move (.tmp 2))
 h4:aY (o 4) 11 (.move (.tmp 0))
 h5:aY (o 5) 12 (.call {callee:= .builtin .len,args:= #[.tmp 11],argTypes:= #[t]})
 h6:aY (o 6) 13 (.slice t (.tmp 8) (some (.tmp 9)) (some (.tmp 10)) (some (.tmp 12)))
 h7:aY (o 7) 14 (.move (.tmp 1))
 h8:aY (o 8) 15 (.move (.tmp 2))
 h9:aY (o 9) 16 (.binOp .eql ti (.tmp 14) (.tmp 15) ti)
 UH:aY (o 10) 17 (.move (.tmp 0))
 SW:aY (o 11) 6 (.assign (.tmp 17))
 SX:aY (o 12) 18 (.move (.tmp 0))
 SY:aY (o 13) 19 (.call {callee:= .builtin .len,args:= #[.tmp 18],argTypes:= #[t]})
 SZ:aY (o 14) 7 (.assign (.tmp 19))
 O5:aY (o 15) 20 (.move (.tmp 0))
 S0:aY (o 16) 21 (.move (.tmp 1))
 ZX:aY (o 17) 22 (.slice t (.tmp 20) none (some (.tmp 21)) none)
 h18:aY (o 18) 23 (.move (.tmp 0))
 h19:aY (o 19) 24 (.move (.tmp 2))
 h20:aY (o 20) 25 (.slice t (.tmp 23) (some (.tmp 24)) none none)
 h21:aY (o 21) 26 (.call {callee:= .builtin .append,args:= #[.tmp 22,.tmp 25],argTypes:= #[t,t]})
 h22:aY (o 22) 0 (.assign (.tmp 26))
 h23:aY (o 23) 27 (.move (.tmp 0))
 h24:aY (o 24) 28 (.move (.tmp 0))
 h25:aY (o 25) 29 (.call {callee:= .builtin .len,args:= #[.tmp 28],argTypes:= #[t]})
 h26:aY (o 26) 30 (.move (.tmp 7))
 h27:aY (o 27) 31 (.slice t (.tmp 27) (some (.tmp 29)) (some (.tmp 30)) none)
 h28:Gd (o 28) (.call {callee:= .builtin .clear,args:= #[.tmp 31],argTypes:= #[t]})
 h29:aY (o 29) 32 (.move (.tmp 0))
 ZY:aY (o 30) 6 (.assign (.tmp 32))
 d5:S2 #[o 15,o 16,o 17,o 18,o 19,o 20,o 21,o 22]=true
structure Qe (P:Program) (f t ti el:Nat) (fn:Func) (r:Nat->Nat) (o:Nat->Oper):Prop where
 pos:P.funcs[f]? =some fn
 name:(fn.name== "runtime.NumGoroutine")=false
 tmps:fn.ntmps=33
 res:fn.results= #[.tmp 6]
 body:fn.body=some (Du r o)
 ops:ah4 t ti o
 mix:P.follows .mixedOrders=true
 xp:P.underlying t=some (.slice el)
section
variable {P:Program}{f t ti el:Nat}{fn:Func}{r:Nat->Nat}{o:Nat->Oper}{ie:TypeInfo}{size n c i j g:Nat}{ad:Option Addr}{w:World}
theorem UY {a:Act}{w:World} {σ:Nat->Value}{R:Ending->World->Prop}{v:Value}(hr:fn.results= #[.tmp 6])(aM:Tm a 33 σ)(h6:σ 6=v)(h:R (.returned v) w):bodyPost P fn R .ret a w:=by
 refine ⟨aM.defers,v,?_,h⟩;have h2:a.tmps[6]?.getD undef=v:=by have:=aM.get 6;rw [h6] at this;simpa using this
 simp [results,hr,h2]
theorem Z7 (hf:Qe P f t ti el fn r o)(oP:P.info? el=some ie)(hn:n<=c)(hi:i<=n): Calls P f #[.slice ad n c,.int .i64 ((i:Nat):Int),.int .i64 ((i:Nat):Int)] w λx w'=>x= .returned (.slice ad n c)/\w'=w:=by
 refine calls_of_wp hf.pos hf.body ?_;rw [hf.tmps];have key: ∀a:Act,Tm a 33 (zT (zT (zT (λ_=>undef) 0 (.slice ad n c)) 1 (.int .i64 ((i:Nat):Int))) 2 (.int .i64 ((i:Nat):Int)))->(Du r o).wp P (bodyPost P fn λx w'=>x= .returned (.slice ad n c)/\w'=w) a w:=by intro a aM;unfold Du;refine wp_seq (wp_region ?_);rw [show c9 (#[o 0]:Array Oper).size=[0] from rfl];refine aM.step (v:= .slice none 0 0) rfl hf.ops.h0 (by decide) (dC hf.ops.h0 _) (λa aM=> ?_);refine wp_seq (wp_region ?_);rw [show c9 (#[o 1,o 2,o 3,o 4,o 5,o 6]:Array Oper).size=[0,1,2,3,4,5] from rfl];refine aM.step (v:= .slice ad n c) rfl hf.ops.h1 (by decide) (aX hf.ops.h1 _) (λa aM=> ?_);refine aM.step (v:= .int .i64 ((i:Nat):Int)) rfl hf.ops.h2 (by decide) (aX hf.ops.h2 _) (λa aM=> ?_);refine aM.step (v:= .int .i64 ((i:Nat):Int)) rfl hf.ops.h3 (by decide) (aX hf.ops.h3 _) (λa aM=> ?_);refine aM.step (v:= .slice ad n c) rfl hf.ops.h4 (by decide) (aX hf.ops.h4 _) (λa aM=> ?_);refine aM.step (v:= .int .i64 ((n:Nat):Int)) rfl hf.ops.h5 (by decide) (nJ hf.ops.h5 hf.xp rfl _) (λa aM=> ?_);refine aM.step rfl hf.ops.h6 (by decide) (Ma hf.ops.h6 hf.xp oP rfl rfl rfl rfl (OF _) hi hn _) (λa aM=> ?_);refine wp_seq ?_;refine wp_seq (wp_region ?_);rw [show c9 (#[o 7,o 8,o 9]:Array Oper).size=[0,1,2] from rfl];refine aM.step (v:= .int .i64 ((i:Nat):Int)) rfl hf.ops.h7 (by decide) (aX hf.ops.h7 _) (λa aM=> ?_);refine aM.step (v:= .int .i64 ((i:Nat):Int)) rfl hf.ops.h8 (by decide) (aX hf.ops.h8 _) (λa aM=> ?_);refine aM.step (v:= .bool (decide (((i:Nat):Int)=((i:Nat):Int)))) rfl hf.ops.h9 (by decide) (qJ hf.ops.h9 rfl rfl _) (λa aM=> ?_);refine aM.cond (b:=true) (by show acj (decide (((i:Nat):Int)=((i:Nat):Int)))=_;rw [decide_eq_true rfl]) ?_;simp only [if_true];refine wp_seq (wp_region ?_);rw [show c9 (#[o 10,o 11]:Array Oper).size=[0,1] from rfl];refine aM.step (v:= .slice ad n c) rfl hf.ops.UH (by decide) (aX hf.ops.UH _) (λa aM=> ?_);refine aM.step (v:= .slice ad n c) rfl hf.ops.SW (by decide) (dC hf.ops.SW _) (λa aM=> ?_);refine wp_ret ?_;show bodyPost P fn (λx wq=>x= .returned (.slice ad n c)/\wq=w) .ret a w;refine UY hf.res aM (v:= .slice ad n c) rfl ?_;exact ⟨rfl,rfl⟩
 exact key _ (tm3 _ _ _ 30)
theorem Z8 (hf:Qe P f t ti el fn r o)(oP:P.info? el=some ie)(vM:ie.size=size)(hn:n<=c)(RR:i<j)(hj:j<=n){w1 w2:World}(hA: ∀ty,(acN #[t,t] ty #[.slice (some ⟨g,0,none⟩) i c,.slice (if c=j then (some ⟨g,0,none⟩:Option Addr) else some ⟨g,j *size,none⟩) (n-j) (c-j)]).run P {w with drawn:=w.drawn+1}= .ok (.slice (some ⟨g,0,none⟩) (i+(n-j)) c) w1) (hC: ∀ty,(aep #[t] ty #[.slice (some ⟨g,(i+(n-j)) *size,none⟩) (n-(i+(n-j))) (c-(i+(n-j)))]).run P w1= .ok (.tuple #[]) w2): Calls P f #[.slice (some ⟨g,0,none⟩) n c,.int .i64 ((i:Nat):Int),.int .i64 ((j:Nat):Int)] w λx w'=>x= .returned (.slice (some ⟨g,0,none⟩) (i+(n-j)) c)/\w'=w2:=by
 refine calls_of_wp hf.pos hf.body ?_;rw [hf.tmps];have h0: ∀l:Nat,(⟨g,0,none⟩:Addr).add l=⟨g,l,none⟩:=λl=>by have:=adt g 0 l;rwa [aen] at this
 have key: ∀a:Act,Tm a 33 (zT (zT (zT (λ_=>undef) 0 (.slice (some ⟨g,0,none⟩) n c)) 1 (.int .i64 ((i:Nat):Int))) 2 (.int .i64 ((j:Nat):Int)))->(Du r o).wp P (bodyPost P fn λx w'=>x= .returned (.slice (some ⟨g,0,none⟩) (i+(n-j)) c)/\w'=w2) a w:=by intro a aM;unfold Du;refine wp_seq (wp_region ?_);rw [show c9 (#[o 0]:Array Oper).size=[0] from rfl];refine aM.step (v:= .slice none 0 0) rfl hf.ops.h0 (by decide) (dC hf.ops.h0 _) (λa aM=> ?_);refine wp_seq (wp_region ?_);rw [show c9 (#[o 1,o 2,o 3,o 4,o 5,o 6]:Array Oper).size=[0,1,2,3,4,5] from rfl];refine aM.step (v:= .slice (some ⟨g,0,none⟩) n c) rfl hf.ops.h1 (by decide) (aX hf.ops.h1 _) (λa aM=> ?_);refine aM.step (v:= .int .i64 ((i:Nat):Int)) rfl hf.ops.h2 (by decide) (aX hf.ops.h2 _) (λa aM=> ?_);refine aM.step (v:= .int .i64 ((j:Nat):Int)) rfl hf.ops.h3 (by decide) (aX hf.ops.h3 _) (λa aM=> ?_);refine aM.step (v:= .slice (some ⟨g,0,none⟩) n c) rfl hf.ops.h4 (by decide) (aX hf.ops.h4 _) (λa aM=> ?_);refine aM.step (v:= .int .i64 ((n:Nat):Int)) rfl hf.ops.h5 (by decide) (nJ hf.ops.h5 hf.xp rfl _) (λa aM=> ?_);refine aM.step rfl hf.ops.h6 (by decide) (Ma hf.ops.h6 hf.xp oP rfl rfl rfl rfl (Nat.le_of_lt RR) hj hn _) (λa aM=> ?_);refine wp_seq ?_;refine wp_seq (wp_region ?_);rw [show c9 (#[o 7,o 8,o 9]:Array Oper).size=[0,1,2] from rfl];refine aM.step (v:= .int .i64 ((i:Nat):Int)) rfl hf.ops.h7 (by decide) (aX hf.ops.h7 _) (λa aM=> ?_);refine aM.step (v:= .int .i64 ((j:Nat):Int)) rfl hf.ops.h8 (by decide) (aX hf.ops.h8 _) (λa aM=> ?_);refine aM.step (v:= .bool (decide (((i:Nat):Int)=((j:Nat):Int)))) rfl hf.ops.h9 (by decide) (qJ hf.ops.h9 rfl rfl _) (λa aM=> ?_);refine aM.cond (b:=false) (by show acj (decide (((i:Nat):Int)=((j:Nat):Int)))=_;rw [decide_eq_false (by omega)]) ?_;simp only [By,if_false];refine wp_skip ?_;refine wp_seq (wp_region ?_);rw [show c9 (#[o 12,o 13,o 14]:Array Oper).size=[0,1,2] from rfl];refine aM.step (v:= .slice (some ⟨g,0,none⟩) n c) rfl hf.ops.SX (by decide) (aX hf.ops.SX _) (λa aM=> ?_);refine aM.step (v:= .int .i64 ((n:Nat):Int)) rfl hf.ops.SY (by decide) (nJ hf.ops.SY hf.xp rfl _) (λa aM=> ?_);refine aM.step (v:= .int .i64 ((n:Nat):Int)) rfl hf.ops.SZ (by decide) (dC hf.ops.SZ _) (λa aM=> ?_);refine wp_seq (Z6 hf.mix hf.ops.d5 (k:=6) rfl λiu=> ?_);refine aM.L9 (v:= .slice (some ⟨g,0,none⟩) n c) rfl hf.ops.O5 (by decide) iu (λw=>aX hf.ops.O5 _) (λa aM iu=> ?_);refine aM.L9 (v:= .int .i64 ((i:Nat):Int)) rfl hf.ops.S0 (by decide) iu (λw=>aX hf.ops.S0 _) (λa aM iu=> ?_);refine aM.L9 (v:= .slice (some ⟨g,0,none⟩) i c) rfl hf.ops.ZX (by decide) iu (λw=>Ds hf.ops.ZX hf.xp oP vM rfl rfl (by omega) _) (λa aM iu=> ?_);refine aM.L9 (v:= .slice (some ⟨g,0,none⟩) n c) rfl hf.ops.h18 (by decide) iu (λw=>aX hf.ops.h18 _) (λa aM iu=> ?_);refine aM.L9 (v:= .int .i64 ((j:Nat):Int)) rfl hf.ops.h19 (by decide) iu (λw=>aX hf.ops.h19 _) (λa aM iu=> ?_);refine aM.L9 (v:= .slice (if c=j then (some ⟨g,0,none⟩:Option Addr) else some ⟨g,j *size,none⟩) (n-j) (c-j)) rfl hf.ops.h20 (by decide) iu (λw=>by refine (zV (P:=P) hf.ops.h20 hf.xp oP vM (ad:=some ⟨g,0,none⟩) (m:=n) (c:=c) (l:=j) rfl rfl hj w).trans ?_;rw [show (some (⟨g,0,none⟩:Addr)).map (·.add (j *size))=some ⟨g,j *size,none⟩ from congrArg some (h0 _)]) (λa aM iu=> ?_);refine aM.alm (v:= .slice (some ⟨g,0,none⟩) (i+(n-j)) c) (v2:= .slice (some ⟨g,0,none⟩) (i+(n-j)) c) rfl hf.ops.h21 (by decide) rfl hf.ops.h22 (by decide) iu (IR hf.ops.h21 rfl rfl (hA _)) (dC hf.ops.h22 _) (λa aM=> ?_);refine wp_seq (wp_region ?_);rw [show c9 (#[o 23,o 24,o 25,o 26,o 27,o 28]:Array Oper).size=[0,1,2,3,4,5] from rfl];refine aM.step (v:= .slice (some ⟨g,0,none⟩) (i+(n-j)) c) rfl hf.ops.h23 (by decide) (aX hf.ops.h23 _) (λa aM=> ?_);refine aM.step (v:= .slice (some ⟨g,0,none⟩) (i+(n-j)) c) rfl hf.ops.h24 (by decide) (aX hf.ops.h24 _) (λa aM=> ?_);refine aM.step (v:= .int .i64 ((i+(n-j):Nat):Int)) rfl hf.ops.h25 (by decide) (nJ hf.ops.h25 hf.xp rfl _) (λa aM=> ?_);refine aM.step (v:= .int .i64 ((n:Nat):Int)) rfl hf.ops.h26 (by decide) (aX hf.ops.h26 _) (λa aM=> ?_);refine aM.step (v:= .slice (some ⟨g,(i+(n-j)) *size,none⟩) (n-(i+(n-j))) (c-(i+(n-j)))) rfl hf.ops.h27 (by decide) (by refine (Qd (P:=P) hf.ops.h27 hf.xp oP vM (ad:=some ⟨g,0,none⟩) (m:=i+(n-j)) (c:=c) (l:=i+(n-j)) (h:=n) rfl rfl rfl (by omega) (by omega) w1).trans ?_;rw [if_neg (show¬c=i+(n-j) by omega)];rw [show (some (⟨g,0,none⟩:Addr)).map (·.add ((i+(n-j)) *size))=some ⟨g,(i+(n-j)) *size,none⟩ from congrArg some (h0 _)]) (λa aM=> ?_);refine aM.aga (v:= .tuple #[]) rfl hf.ops.h28 (UX hf.ops.h28 rfl (hC _)) ?_;refine wp_seq (wp_region ?_);rw [show c9 (#[o 29,o 30]:Array Oper).size=[0,1] from rfl];refine aM.step (v:= .slice (some ⟨g,0,none⟩) (i+(n-j)) c) rfl hf.ops.h29 (by decide) (aX hf.ops.h29 _) (λa aM=> ?_);refine aM.step (v:= .slice (some ⟨g,0,none⟩) (i+(n-j)) c) rfl hf.ops.ZY (by decide) (dC hf.ops.ZY _) (λa aM=> ?_);refine wp_ret ?_;show bodyPost P fn (λx wq=>x= .returned (.slice (some ⟨g,0,none⟩) (i+(n-j)) c)/\wq=w2) .ret a w2;refine UY hf.res aM (v:= .slice (some ⟨g,0,none⟩) (i+(n-j)) c) rfl ?_;exact ⟨rfl,rfl⟩
 exact key _ (tm3 _ _ _ 30)
end
section
variable {P:Program}{c:Ctx}{f:Nat}
theorem Mb {t ti el:Nat}{fn:Func}{r:Nat->Nat}{o:Nat->Oper}{I E:TI}{xs:List MV}{i j:Nat}(hf:Qe P f t ti el fn r o)(hT:lW P c.ti)(hI:c.tv t=some I)(hL:I.CW=true)(hE:c.tv I.elem=some E)(hel:el=I.elem)(Fe:c.sw (c.key f)=I.elem)(hg:c.fj (c.key f)=true)(RR:i<=j)(hj:j<=xs.length):lX P c f [.fresh xs,.i .i64 i,.i .i64 j] (.fresh (xs.take i++xs.drop j)):=by
 subst hel;obtain ⟨hIt,YI⟩:=b8 hI;obtain ⟨oQ,rU⟩:=b8 hE;obtain ⟨hu,E2,zv,_,fm⟩:=TI.nU (hT t I hIt) hL;rw [oQ] at zv;cases zv;obtain ⟨ie,z,oP,vM,hby,hz0,Ss⟩:=sY (hT _ E oQ) rU;obtain ⟨ie2,z2,Z9,YC,hzr⟩:=Cy hE hT;rw [oP] at Z9;cases Z9;rw [hz0] at YC;cases YC;have hz1: ∀v∈z.cells.toList,v.oneCell'=true:=(hzr (qg c.key λ_ _=>none)).cells;intro φ W Z vs hz gm ki;simp only [fS,hg,if_true] at gm;obtain ⟨v0,v1,v2,xs',m1,m2,rfl,Wf,arz,F0,A1,A2⟩:=(gm.resolve_left (by
  rintro ⟨_,_,_,_,_,ys,_,h1,_⟩;simp only [adB,and_true] at h1;exact absurd h1.2.2 (by simp))).resolve_right (by
  rintro ⟨pos,_,_,_,_,_,_,h1,_⟩;rcases pos with _|_|_|pos<;>simp at h1)
 simp only [adB,MV.fresh.injEq,and_true] at Wf;obtain ⟨rfl,rfl,rfl⟩:=Wf;have num: ∀{v:Value} {n:Nat},gf c.key φ v (.i .i64 (n:Int))->v= .int .i64 (n:Int):=by intro v n h;obtain ⟨_,h⟩:=h;generalize B1:[v]=l at h;cases h;simpa using B1
 have VV:=num A1;have hv2:=num A2;subst VV;subst hv2;rw [Fe] at F0;obtain ⟨I0,cells,hI0,_,wA,u6,L8⟩:=F0;have hI0:c.ti I.elem=some I0:=hI0;rw [oQ] at hI0;cases hI0;have wA:W.ownsRow 0 I.elem E.size v0 xs.length cells:=wA;have u6:bx c.key φ E.size cells xs:=u6;have RU: ∀b,v0.ownBlock=some b->Z b/\ ∀off,φ b off=none:=by
  intro b hb;refine ⟨(L8 b hb).1,λoff=> ?_⟩;cases h:φ b off with
  |none=>rfl
  |some u=>have:=((L8 b hb).2.1 off u h).1;cases this
 have sf:cells.length=xs.length *E.size:=u6.length;have cB:(callFunc f [v0,.int .i64 (i:Int),.int .i64 (j:Int)].toArray).run P W= .ok (.enter f #[v0,.int .i64 (i:Int),.int .i64 (j:Int)]) W:=by
  have GL: ¬fn.name= "runtime.NumGoroutine" :=by simpa using hf.name
  simp [callFunc,hf.pos,GL,hf.body]
 unfold ia;rw [cB];rcases Nat.lt_or_ge i j with dY|hge
 ·
  obtain ⟨g,cp,dM,rfl,_,X1,PE,Hj,xn,RS⟩: ∃g cp dM,v0= .slice (some ⟨g,0,none⟩) xs.length cp/\0<=g/\W.heap[g]? =some (.cells dM I.elem (0,0))/\xs.length<=cp/\cp<=maxLen/\dM.size=cp *E.size/\dM.toList.take (xs.length *E.size)=cells:=by
   rcases wA.2 with ⟨_,h0⟩|h
   ·omega
   ·exact h
  have hl0:cells.length<=dM.size:=by rw [sf,xn];exact ack _ PE
  obtain ⟨news,UZ⟩: ∃news,news=cells.drop (j *E.size):=⟨_,rfl⟩
  have Hl:news.length=(xs.length-j) *E.size:=by rw [UZ,aaK,sf,afz]
  have KH: ∀u∈news,u.oneCell'=true:=λu hu=>u6.Cs u (by rw [UZ] at hu;exact afB hu);have hmul: ∀{a b:Nat},a<=b->a *E.size<=b *E.size:=λh=>ack _ h;have atu:i *E.size<=j *E.size:=hmul (by omega);have hjn:j *E.size<=xs.length *E.size:=hmul hj;have atv:xs.length *E.size<=cp *E.size:=hmul PE;have hlo:(i+(xs.length-j)) *E.size=i *E.size+news.length:=by rw [ac9,Hl]
  have GN:news.length+j *E.size=xs.length *E.size:=by rw [Hl,afz];omega
  obtain ⟨zX,U0⟩: ∃zX:Array Value,zX=(dM.toList.take (i *E.size)++news++dM.toList.drop (i *E.size+news.length)).toArray:=⟨_,rfl⟩
  have aln:dM.toList.length=dM.size:=aar;have agb:zX.toList.length=zX.size:=aar;have hA: ∀ty,(acN #[t,t] ty #[.slice (some ⟨g,0,none⟩) i cp,.slice (if cp=j then (some ⟨g,0,none⟩:Option Addr) else some ⟨g,j *E.size,none⟩) (xs.length-j) (cp-j)]).run P {W with drawn:=W.drawn+1}= .ok (.slice (some ⟨g,0,none⟩) (i+(xs.length-j)) cp) (({W with drawn:=W.drawn+1}:World).setRow g zX):=by
   intro ty;have zg:i *ie.size+news.length<=dM.size:=by rw [vM,xn];omega
   by_cases hcj:cp=j
   ·rw [if_pos hcj];refine run_append_room (P:=P) (w:={W with drawn:=W.drawn+1}) t ty I.elem ie hu oP g i cp dM X1 ⟨g,0,none⟩ (xs.length-j) (cp-j) news (by rw [vM];exact Hl) ?_ KH (by omega) zg|>.trans ?_
    ·intro q u hq;have:=(acI.1 hq).1;rw [Hl,show xs.length-j=0 by omega] at this;omega
    ·rw [vM,U0]
   ·rw [if_neg hcj];refine run_append_room (P:=P) (w:={W with drawn:=W.drawn+1}) t ty I.elem ie hu oP g i cp dM X1 ⟨g,j *E.size,none⟩ (xs.length-j) (cp-j) news (by rw [vM];exact Hl) ?_ KH (by omega) zg|>.trans ?_
    ·intro q u hq;have h1:=wA.cells (g:=g) rfl (j *E.size+q) u (by rw [UZ,acr] at hq;exact hq);rw [adt] at h1⊢;rw [aen] at h1;exact h1
    ·rw [vM,U0]
  have Sn:zX.size=dM.size:=by rw [U0];simp only [acg,AS,AI,aaK,aln];omega
  have O2:(({W with drawn:=W.drawn+1}:World).setRow g zX).heap[g]? =some (.cells zX I.elem (0,0)):=wB _ X1;obtain ⟨zs,hzl,hC0⟩:=zW (P:=P) (t:=t) (ty:=0) (c:=cp-(i+(xs.length-j))) (w:=({W with drawn:=W.drawn+1}:World).setRow g zX) (off:=(i+(xs.length-j)) *E.size) (n:=xs.length-(i+(xs.length-j))) hu oP hz0 Ss hz1 O2 (by omega) (by rw [Sn,xn,<-ac9];exact hmul (by omega));obtain ⟨wh,PB⟩: ∃wh:Array Value,wh=(zX.toList.take ((i+(xs.length-j)) *E.size)++zs++zX.toList.drop ((i+(xs.length-j)) *E.size+zs.length)).toArray:=⟨_,rfl⟩
  rw [<-PB] at hC0;have hC: ∀ty,(aep #[t] ty #[.slice (some ⟨g,(i+(xs.length-j)) *E.size,none⟩) (xs.length-(i+(xs.length-j))) (cp-(i+(xs.length-j)))]).run P (({W with drawn:=W.drawn+1}:World).setRow g zX)= .ok (.tuple #[]) ((({W with drawn:=W.drawn+1}:World).setRow g zX).setRow g wh):=λty=>hC0;refine (Z8 (w:=W) hf oP vM PE dY hj hA hC).mono ?_;rintro x w' ⟨rfl,rfl⟩;refine ⟨_,rfl,?_⟩;have apb:zs.length=(j-i) *E.size:=by rw [hzl];congr 1;omega
  have hc2:wh.size=dM.size:=by rw [PB];simp only [acg,AS,AI,aaK,agb,Sn];rw [apb,afz,hlo];omega
  have alg:wh.toList.take ((i+(xs.length-j)) *E.size)=cells.take (i *E.size)++cells.drop (j *E.size):=by
   rw [PB];have l1:(zX.toList.take ((i+(xs.length-j)) *E.size)).length=(i+(xs.length-j)) *E.size:=by rw [AI,agb,Sn,xn,hlo];omega
   rw [show∀l:List Value,l.toArray.toList=l from λ_=>rfl,ade,aaF (by rw [l1];exact OF _),aaS (by rw [l1];exact OF _),hlo,U0];have l2:(dM.toList.take (i *E.size)).length=i *E.size:=by rw [AI,aln,xn];omega
   rw [show∀l:List Value,l.toArray.toList=l from λ_=>rfl,aaF (by rw [AS,l2];exact OF _),aaS (by rw [AS,l2];exact OF _),UZ];congr 1;rw [<-RS,aeo,acO (by omega)]
  have e2:(({W with drawn:=W.drawn+1}:World).setRow g zX).setRow g wh=({W with drawn:=W.drawn+1}:World).setRow g wh:=setRow_setRow _ _ _ _;have Wt:((({W with drawn:=W.drawn+1}:World).setRow g zX).setRow g wh).heap[g]? =some (.cells wh I.elem (0,0)):=wB _ O2;have hrl:(xs.take i++xs.drop j).length=i+(xs.length-j):=by rw [AS,AI,aaK];omega
  refine Ho (n:=i+(xs.length-j)) (cells:=cells.take (i *E.size)++cells.drop (j *E.size)) hz ki oQ rU Fe ?_ ?_ ?_ RU ?_ hrl ((u6.take i).append (u6.drop j)) ?_
  ·intro b _ dG;have hbg:b≠g:=λe=>dG (by rw [e];rfl);rw [setRow_other _ _ _ _ hbg,setRow_other _ _ _ _ hbg]
  ·simp [adi]
  ·have r1:Rest W ({W with drawn:=W.drawn+1}:World):=⟨rfl,rfl,rfl,λ_=>rfl⟩
   exact (r1.trans (Rest.setRow _ g zX)).trans (Rest.setRow _ g wh)
  ·refine ⟨?_,.inr ⟨g,cp,wh,rfl,aco _,Wt,by omega,Hj,by rw [hc2,xn],alg⟩⟩;rw [AS,AI,aaK,sf,hlo,Hl,afz];omega
  ·intro b hb;exact .inl hb
 ·
  have X3:j=i:=by omega
  subst X3;obtain ⟨ad,cp,hv,PE⟩: ∃ad cp,v0= .slice ad xs.length cp/\xs.length<=cp:=by
   rcases wA.2 with ⟨h1,h2⟩|⟨g,cp,dM,h1,_,_,h4,_⟩
   ·exact ⟨none,0,by rw [h1,h2],by omega⟩
   ·exact ⟨_,cp,h1,h4⟩
  have hvv:=hv;subst hv;refine (Z7 (w:=W) (ad:=ad) hf oP PE hj).mono ?_;rintro x w' ⟨rfl,rfl⟩;refine ⟨_,rfl,φ,⟨.refl _,λ_ _ _=>rfl,λ_ _ _=>rfl,OF _,.refl _⟩,ki,?_⟩;show dI c (b7.plain Z) (qg c.key φ) w' _ ⟨c.sw (c.key f),false,xs.take j++xs.drop j⟩;rw [Fe,ag2];exact ⟨E,cells,oQ,rU,wA,u6,L8⟩
end
def qL:List MV->Option MV
 |[.fresh xs,.i .i64 i,.i .i64 j]=>bif decide (0<=i)&&(decide (i<=j)&&decide (j<=(xs.length:Int))) then some (.fresh (xs.take i.toNat++xs.drop j.toNat)) else none
 |_=>none
theorem Dv {ms:List MV}{r:MV}(h:qL ms=some r): ∃xs i j,ms=[.fresh xs,.i .i64 ((i:Nat):Int),.i .i64 ((j:Nat):Int)]/\r= .fresh (xs.take i++xs.drop j)/\i<=j/\j<=xs.length:=by
 unfold qL at h;split at h
 ·rename_i xs i j;cases hb:decide (0<=i)&&(decide (i<=j)&&decide (j<=(xs.length:Int))) with
  |false=>rw [hb] at h;cases h
  |true=>simp only [hb,cond_true,IN] at h;simp only [sh,decide_eq_true_eq] at hb;obtain ⟨h1,h2,h3⟩:=hb;refine ⟨xs,i.toNat,j.toNat,?_,h.symm,by omega,by omega⟩;rw [afU h1,afU (by omega)]
 ·cases h
end Dn
/-
  Functions of the library as table entries. Conditions: none.
-/
namespace Dn
open Go
def iv (size bytes:Nat):List MV->Option MV
 |[.list xs]=>bif nS size xs&&aaL (xs.length *bytes) (2^46) then some (.fresh xs) else none
 |_=>none
def kA (bytes:Nat):List MV->Option MV
 |[.fresh xs,.i .i64 i,.fresh ys]=>bif decide (0<=i)&&(aaL i.toNat xs.length&&(!ys.isEmpty&&aaL ((xs.length+ys.length) *bytes) (2^46))) then some (.fresh (xs.take i.toNat++ys++xs.drop i.toNat)) else none
 |_=>none
theorem u7 {size bytes:Nat}{ms:List MV}{r:MV}(h:iv size bytes ms=some r): ∃xs,ms=[.list xs]/\r= .fresh xs/\nS size xs=true/\xs.length *bytes<=2^46:=by
 unfold iv at h;split at h
 ·rename_i xs;cases hb:nS size xs&&aaL (xs.length *bytes) (2^46) with
  |false=>simp [hb] at h
  |true=>simp only [hb,cond_true,IN] at h;simp only [sh] at hb;exact ⟨xs,rfl,h.symm,hb.1,No hb.2⟩
 ·cases h
theorem xN {bytes:Nat}{ms:List MV}{r:MV}(h:kA bytes ms=some r): ∃xs ys i,ms=[.fresh xs,.i .i64 ((i:Nat):Int),.fresh ys]/\r= .fresh (xs.take i++ys++xs.drop i)/\i<=xs.length/\ys≠[]/\(xs.length+ys.length) *bytes<=2^46:=by
 unfold kA at h;split at h
 ·rename_i xs i ys;cases hb:decide (0<=i)&&(aaL i.toNat xs.length&&(!ys.isEmpty&&aaL ((xs.length+ys.length) *bytes) (2^46))) with
  |false=>rw [hb] at h;cases h
  |true=>
   simp only [hb,cond_true,IN] at h;simp only [sh,decide_eq_true_eq,ace] at hb;obtain ⟨h1,h2,h3,h4⟩:=hb;refine ⟨xs,ys,i.toNat,?_,h.symm,No h2,?_,No h4⟩
   ·rw [afU h1]
   ·intro hy;subst hy;simp at h3
 ·cases h
theorem jY.none (P:Program)(c:Ctx):jY P c (λ_ _=>Option.none):=⟨λf ms r h=>by cases h⟩
theorem jY.GR {P:Program}{c:Ctx}{g:Nat->List MV->Option MV}{n:Nat}{F:List MV->Option MV}(h:jY P c g)(Cv: ∀f,c.key f=f)(hF: ∀ms r,F ms=some r->lX P c n ms r):jY P c (bt n F g):=h.add (λf ms r hk hr=>by rw [Cv] at hk;rw [hk];exact hF ms r hr)
def xO:Code->List Oper
 | .region _ ops _=>ops.toList
 | .seq x y=>xO x++xO y
 | .cond _ x y=>xO x++xO y
 | .block _ x=>xO x
 | .loop x=>xO x
 |_=>[]
def jQ (fn:Func)(d:Oper)(k:Nat):Oper:=match fn.body with|some c=>(xO c).getD k d|none=>d
def ND (o:Nat->Oper):Code:= .seq (.region 18 #[o 83,o 84,o 85,o 86,o 87] false) (.seq (.region 19 #[o 88,o 89,o 90,o 91,o 92] false) (.seq (.region 20 #[o 93,o 94] false) .ret))
def jR:Oper:={dst:=none,op:= .move (.tmp 0),type:=0,pos:= "",after:= #[],guard:=none}
end Dn
/-
  Reasoning about functions on values. Conditions: none.
-/
namespace Dn
open Go
section
variable {R:Type}
@[simp] theorem atw (k : IntKind)(x : Int)(K : Int -> Option R) : gI k (.i k x) K = K x := by simp [gI]
@[simp] theorem av {α : Type}(a : α)(K : α -> Option R) : bd (some a) K = K a := (rfl)
@[simp] theorem arC (a b : Nat) : acm a b = decide (a = b) := gh a b
@[simp] theorem alo (K : Option R) : bP true K = K := (rfl)
@[simp] theorem alp (x y : Option R) : aW true x y = x := (rfl)
@[simp] theorem ajj (x y : Option R) : aW false x y = y := (rfl)
end
theorem adD {x:Int}(h1: -9223372036854775808<=x)(h2:x<=9223372036854775807):aas .i64 x=x:=by rw [adX];omega
theorem aaa {i j:Nat}(h:i+j<2^62):aas .i64 (ah5 (aas .u64 (aas .i64 ((i:Int)+(j:Int)))) (2^min (aho 1) (aeq .u64)))=(((i+j)/2:Nat):Int):=by
 have h1:aas .i64 ((i:Int)+(j:Int))=((i+j:Nat):Int):=by rw [adX];omega
 have h2:aas .u64 ((i+j:Nat):Int)=((i+j:Nat):Int):=by
  have:aas .u64 ((i+j:Nat):Int)=((i+j:Nat):Int)%18446744073709551616:=by simp [aas,IntKind.signed,aeq]
  rw [this];omega
 have h3:(2:Int)^min (aho 1) (aeq .u64)=2:=by decide
 rw [h1,h2,h3,Int.fdiv_eq_ediv_of_nonneg _ (by omega)];rw [adX];omega
section
variable {σ R:Type}{body:σ->Option (Sum σ R)}
theorem Mc {n:Nat}{s:σ}{r:R}(h:iter body n s=some r): ∀{m:Nat},n<=m->iter body m s=some r:=by
 induction n generalizing s with
 |zero=>cases h
 |succ n ih=>
  intro m hm;obtain ⟨m,rfl⟩: ∃k,m=k+1:=⟨m-1,by omega⟩
  simp only [iter] at h⊢;cases hb:body s with
  |none=>rw [hb] at h;cases h
  |some x=>
   rw [hb] at h;cases x with
   |inl s'=>exact ih h (by omega)
   |inr r'=>exact h
theorem sI {n:Nat}{s:σ}{r:R}(h:iter body n s=some r):Loop body s=some r:=by
 have he: ∃r n,iter body n s=some r:=⟨r,n,h⟩
 unfold Loop;rw [dif_pos he];obtain ⟨m,hm⟩:=Classical.choose_spec he;have h1:=Mc h (Nat.le_max_left n m);have h2:=Mc hm (Nat.le_max_right n m);rw [h1] at h2;exact h2.symm
theorem aab (I:σ->Prop) (μ:σ->Nat)(Q:R->Prop)(h: ∀s,I s->(∃s',body s=some (.inl s')/\I s'/\μ s'<μ s)\/(∃r,body s=some (.inr r)/\Q r)){s:σ}(hs:I s): ∃r,Loop body s=some r/\Q r:=by
 have key: ∀k s,I s->μ s<k-> ∃r,iter body k s=some r/\Q r:=by
  intro k;induction k with
  |zero=>intro s _ h;omega
  |succ k ih=>
   intro s hs hk;rcases h s hs with ⟨s',e,hi,hm⟩|⟨r,e,hq⟩
   ·obtain ⟨r,e2,hq⟩:=ih s' hi (by omega);exact ⟨r,by simp only [iter,e];exact e2,hq⟩
   ·exact ⟨r,by simp only [iter,e],hq⟩
 obtain ⟨r,e,hq⟩:=key (μ s+1) s hs (by omega);exact ⟨r,sI e,hq⟩
theorem aac (S:Nat->σ)(N:Nat)(Q:R->Prop)(P:Nat->Prop)(h0:P 0)(h: ∀k,k<N->P k->(body (S k)=some (.inl (S (k+1)))/\P (k+1))\/(∃r,body (S k)=some (.inr r)/\Q r))(he:P N-> ∃r,body (S N)=some (.inr r)/\Q r): ∃r,Loop body (S 0)=some r/\Q r:=by
 have key: ∀d k,k+d=N->P k-> ∃r,iter body (d+1) (S k)=some r/\Q r:=by
  intro d;induction d with
  |zero=>
   intro k hk hp;have:k=N:=by omega
   subst this;obtain ⟨r,e,hq⟩:=he hp;exact ⟨r,by simp only [iter,e],hq⟩
  |succ d ih=>
   intro k hk hp;rcases h k (by omega) hp with ⟨e,Nf⟩|⟨r,e,hq⟩
   ·obtain ⟨r,e2,hq⟩:=ih (k+1) (by omega) Nf;exact ⟨r,by rw [iter,e];exact e2,hq⟩
   ·exact ⟨r,by rw [iter,e],hq⟩
 obtain ⟨r,e,hq⟩:=key N 0 (by omega) h0;exact ⟨r,sI e,hq⟩
end
end Dn
/-
  From functions on plain values to functions on typed values. Conditions: none.
-/
namespace Dn
open Go
def aV {R:Type}(l:List MV)(K:Nat->Option R):Option R:=K l.length
def ix {α R:Type}(l:List α)(i:Int)(K:α->Option R):Option R:=match (if 0<=i then l[i.toNat]? else none) with|some x=>K x|none=>none
def Qf (l:List UInt8):List Int:=l.map λb=>(b.toNat:Int)
@[simp] theorem xP (l : List UInt8) : Pe l = (Qf l).map (MV.i .u8) := by unfold Pe Qf; rw [ahF]; rfl
def kC {α:Type}(bytes:Nat)(l:List α):Option (List α):=if l.length *bytes<=2^46 then some l else none
def Bd {α:Type}(xs:List α)(i j:Int):Option (List α):=if 0<=i/\i<=j/\j<=(xs.length:Int) then some (xs.take i.toNat++xs.drop j.toNat) else none
def sJ {α:Type}(bytes:Nat)(xs:List α)(i:Int)(ys:List α):Option (List α):=if 0<=i/\i.toNat<=xs.length/\ys≠[]/\(xs.length+ys.length) *bytes<=2^46 then some (xs.take i.toNat++ys++xs.drop i.toNat) else none
@[reducible] def NE {α : Type}(f : α -> MV)(l : List α) : MV := .list (l.map f)
@[reducible] def KR {α : Type}(f : α -> MV)(l : List α) : MV := .fresh (l.map f)
def Sm {A B:Type}(g:B->A)(x:Option A)(y:Option B):Prop:=x=y.map g
section
variable {A B A' B' α:Type}{g:B->A}{T:Option B}
theorem Sm.at {x x':Option A}(e:x=x')(h:Sm g x' T):Sm g x T:=e▸h
theorem az {l:List MV}{K:List MV->Option A}(h:Sm g (K l) T):Sm g (gA (.agg l) K) T:=h
theorem aN {x:Bool}{K:Bool->Option A}(h:Sm g (K x) T):Sm g (gB (.b x) K) T:=h
theorem bu {x:List UInt8}{K:List UInt8->Option A}(h:Sm g (K x) T):Sm g (gS (.s x) K) T:=h
theorem aC {x:List MV}{K:List MV->Option A}(h:Sm g (K x) T):Sm g (gL (.list x) K) T:=h
theorem Md {x:MV}{outs:List MV}{K:MV->List MV->Option A}(h:Sm g (K x outs) T):Sm g (gW (.fb x outs) K) T:=h
theorem bX {x:List MV}{K:List MV->Option A}(h:Sm g (K x) T):Sm g (gT (.cg x) K) T:=h
theorem fp {x:List MV}{K:List MV->Option A}(h:Sm g (K x) T):Sm g (gF (.fresh x) K) T:=h
theorem Me {x:List MV}{K:List MV->Option A}(h:Sm g (K x) T):Sm g (gP (.rp x) K) T:=h
theorem vN {f:Nat}{x:List MV}{K:Nat->List MV->Option A}(h:Sm g (K f x) T):Sm g (RX (.func f x) K) T:=h
theorem vO {f:Nat}{x:List MV}{K:MV->Option A}(h:Sm g (K (.func f x)) T):Sm g (gR (.func f x) K) T:=h
theorem ay {k:IntKind}{n:Int}{K:Int->Option A}(h:Sm g (K n) T):Sm g (gI k (.i k n) K) T:=by simpa using h
theorem aa {m:MV}{r:List MV}{K:MV->List MV->Option A}(h:Sm g (K m r) T):Sm g (gC (m::r) K) T:=h
theorem ak {K:Option A}(h:Sm g K T):Sm g (gN [] K) T:=h
theorem ae {x:Option A'}{y:Option B'}{f:B'->A'}{K:A'->Option A} {K':B'->Option B}(h:Sm f x y)(hk: ∀b,Sm g (K (f b)) (K' b)):Sm g (bd x K) (bd y K'):=by
 unfold Sm at h;subst h;cases y with
 |none=>rfl
 |some b=>exact hk b
theorem ax {p:Prop}[Decidable p]{X Y:Option A} {X' Y':Option B}(h1:Sm g X X')(h2:Sm g Y Y'):Sm g (aW (decide p) X Y) (if p then X' else Y'):=by by_cases h:p<;>simpa [h] using (by assumption)
theorem aA {c:Bool}{X Y:Option A} {X' Y':Option B}(h1:Sm g X X')(h2:Sm g Y Y'):Sm g (aW c X Y) (if c then X' else Y'):=by cases c<;>simpa using (by assumption)
theorem bD {p:Prop}[Decidable p]{X:Option A} {X':Option B}(h1:Sm g X X'):Sm g (bP (decide p) X) (if p then X' else none):=by
 by_cases h:p
 ·simpa [h] using h1
 ·simp [h,bP,Sm]
theorem NF {c:Bool}{X:Option A} {X':Option B}(h1:Sm g X X'):Sm g (bP c X) (if c then X' else none):=by
 cases c
 ·simp [bP,Sm]
 ·simpa using h1
theorem aZ {c:Bool}{X:Option A}(hc:c=true)(h:Sm g X T):Sm g (bP c X) T:=by subst hc;exact h
theorem ib {c:Bool}{X Y:Option A}(hc:c=true)(h:Sm g X T):Sm g (aW c X Y) T:=by subst hc;exact h
theorem ic {c:Bool}{X Y:Option A}(hc:c=false)(h:Sm g Y T):Sm g (aW c X Y) T:=by subst hc;exact h
theorem xQ {l:List MV}{n:Nat}{K:Nat->Option A}(e:l.length=n)(h:Sm g (K n) T):Sm g (aV l K) T:=by subst e;exact h
theorem bc {l:List MV}{M:List α}{f:α->MV}{i:Int}{K:MV->Option A} {K':α->Option B}(e:l=M.map f)(h: ∀y,Sm g (K (f y)) (K' y)):Sm g (idx l i K) (ix M i K'):=by
 subst e;unfold idx agE ix;by_cases hi:0<=i
 ·simp only [hi,if_true,age];cases M[i.toNat]? with
  |none=>rfl
  |some y=>exact h y
 ·simp only [hi,if_false];rfl
theorem Be {X:Option A}{T:Option B}(h:Sm g X T):Sm g (both X X) T:=by
 have e:both X X=X:=by unfold both;rw [if_pos rfl]
 rw [e];exact h
theorem aad {X:Option A}{T:Option B}(h:Sm g X T):Sm g (both X (both X X)) T:=by
 have e:both X X=X:=by unfold both;rw [if_pos rfl]
 rw [e,e];exact h
def KS {R:Type}(l:List Int)(K:List UInt8->Option R):Option R:=if l.all isByte then K (l.map λn=>UInt8.ofNat n.toNat) else none
theorem aae {R:Type}{M:List Int}: ∀{K:List UInt8->Option R},HQ (M.map (MV.i .u8)) K=KS M K:=by
 induction M with
 |nil=>intro K;rfl
 |cons n M ih=>intro K;simp only [aec,HQ,byK,gI,decide_true,cond_true,ih];cases h:isByte n<;>simp [bP,KS,h]
theorem S3 {l:List MV}{M:List Int}{K:List UInt8->Option A} {K':List UInt8->Option B}(e:l=M.map (MV.i .u8))(h: ∀b,Sm g (K b) (K' b)):Sm g (HQ l K) (KS M K'):=by
 subst e;rw [aae];unfold KS;split
 ·exact h _
 ·rfl
theorem b9 {d:A}{a:B}(e:d=g a):Sm g (some d) (some a):=by subst e;rfl
theorem adE:Sm g none none:=rfl
theorem adF {p k:Nat}{K:Nat->Option A}{X:Option B}(h:k=p->Sm g (K p) X):Sm g (KD [p] k K) (if k=p then X else none):=by
 by_cases hk:k=p
 ·subst hk;rw [if_pos rfl];unfold KD;rw [show acm k k=true from Nat.beq_refl k];exact h rfl
 ·rw [if_neg hk];unfold KD;rw [show acm k p=false from by simpa using hk];rfl
theorem qM {p q k:Nat}{r:List Nat}{K:Nat->Option A}{X Y:Option B}(h:k=p->Sm g (K p) X)(h2:Sm g (KD (q::r) k K) Y):Sm g (KD (p::q::r) k K) (if k=p then X else Y):=by
 by_cases hk:k=p
 ·subst hk;rw [if_pos rfl];unfold KD;rw [show acm k k=true from Nat.beq_refl k];exact h rfl
 ·rw [if_neg hk];unfold KD;rw [show acm k p=false from by simpa using hk];exact h2
theorem mF {n:Nat}{l:List MV}{M:List α}{f:α->MV}(e:l=M.map f)(h: ∀x,(f x).w=n):nS n l=true:=by subst e;unfold nS;rw [List.all_map,aca];intro x _;simp [h x]
theorem Qg {σ σ' ρ ρ':Type}{e:σ'->σ}{f:ρ'->ρ}{K:σ->Option (Sum σ ρ)} {K':σ'->Option (Sum σ' ρ')}(h: ∀s,Sm (Sum.map e f) (K (e s)) (K' s))(n:Nat)(s:σ'):iter K n (e s)=(iter K' n s).map f:=by
 induction n generalizing s with
 |zero=>rfl
 |succ n ih=>
  have:=h s;unfold Sm at this;simp only [iter,this];cases K' s with
  |none=>rfl
  |some x=>cases x with
   |inl s'=>exact ih s'
   |inr r=>rfl
theorem Mf {σ ρ:Type}{K:σ->Option (Sum σ ρ)}{s:σ}(h: ∀n,iter K n s=none):Loop K s=none:=by unfold Loop;rw [dif_neg];rintro ⟨r,n,e⟩;rw [h] at e;cases e
theorem bB {σ σ' ρ ρ':Type}{K:σ->Option (Sum σ ρ)} {K':σ'->Option (Sum σ' ρ')}{d0:σ}{s0:σ'}(e:σ'->σ)(f:ρ'->ρ)(e0:d0=e s0)(h: ∀s,Sm (Sum.map e f) (K (e s)) (K' s)):Sm f (Loop K d0) (Loop K' s0):=by
 subst e0;unfold Sm;by_cases hx: ∃r n,iter K' n s0=some r
 ·obtain ⟨r,n,hn⟩:=hx;rw [sI hn];have:iter K n (e s0)=some (f r):=by rw [Qg h,hn];rfl
  rw [sI this];rfl
 ·have h1: ∀n,iter K' n s0=none:=λn=>by
   cases hn:iter K' n s0 with
   |none=>rfl
   |some r=>exact absurd ⟨r,n,hn⟩ hx
  rw [Mf h1,Mf λn=>by rw [Qg h,h1];rfl];rfl
theorem sK {size bytes:Nat}{f:α->MV}(hw: ∀x,(f x).w=size)(l:List α):Sm (KR f) (iv size bytes [.list (l.map f)]) (kC bytes l):=by
 unfold Sm iv kC;simp only [mF (rfl:l.map f=l.map f) hw,Bool.true_and,afO];by_cases h:l.length *bytes<=2^46
 ·rw [show aaL (l.length *bytes) (2^46)=true from aeU h,if_pos h];rfl
 ·rw [show aaL (l.length *bytes) (2^46)=false from by rw [aer];intro hb;exact h (No hb),if_neg h];rfl
theorem Qh {f:α->MV}(xs:List α)(i j:Int):Sm (KR f) (qL [.fresh (xs.map f),.i .i64 i,.i .i64 j]) (Bd xs i j):=by unfold Sm qL Bd;simp only [afO];by_cases h1:0<=i<;>by_cases h2:i<=j<;>by_cases h3:j<=(xs.length:Int)<;>simp [h1,h2,h3,KR]
theorem IX {bytes:Nat}{f:α->MV}(xs:List α)(i:Int)(ys:List α):Sm (KR f) (kA bytes [.fresh (xs.map f),.i .i64 i,.fresh (ys.map f)]) (sJ bytes xs i ys):=by
 unfold Sm kA sJ;simp only [afO];have hb: ∀a b:Nat,aaL a b=decide (a<=b):=λa b=>by
  by_cases h:a<=b
  ·rw [aeU h,decide_eq_true h]
  ·rw [decide_eq_false h,aer];intro hh;exact h (No hh)
 rw [hb,hb];have he:(ys.map f).isEmpty=decide (ys=[]):=by cases ys<;>simp
 rw [he];by_cases h1:0<=i<;>by_cases h2:i.toNat<=xs.length<;>by_cases h3:ys=[]<;>by_cases h4:(xs.length+ys.length) *bytes<=2^46<;>simp [h1,h2,h3,h4,KR]
end
abbrev NG (f:Option MV):List MV->Option MV|[]=>f|_=>none
abbrev nX (f:MV->Option MV):List MV->Option MV|[a]=>f a|_=>none
abbrev dy (f:MV->MV->Option MV):List MV->Option MV|[a,b]=>f a b|_=>none
abbrev GS (f:MV->MV->MV->Option MV):List MV->Option MV|[a,b,c]=>f a b c|_=>none
abbrev WD (f:MV->MV->MV->MV->Option MV):List MV->Option MV|[a,b,c,d]=>f a b c d|_=>none
abbrev ah6 (f:MV->MV->MV->MV->MV->Option MV):List MV->Option MV|[a,b,c,d,e]=>f a b c d e|_=>none
theorem xR {f:Option MV}{B:List MV->Option MV}(h:B []=f){ms:List MV}{r:MV}(e:NG f ms=some r):B ms=some r:=by
 unfold NG at e;split at e
 ·rw [h];exact e
 ·cases e
theorem dP {f:MV->Option MV}{B:List MV->Option MV}(h: ∀a,B [a]=f a){ms:List MV}{r:MV}(e:nX f ms=some r):B ms=some r:=by
 unfold nX at e;split at e
 ·rw [h];exact e
 ·cases e
theorem bg {f:MV->MV->Option MV}{B:List MV->Option MV}(h: ∀a b,B [a,b]=f a b){ms:List MV}{r:MV}(e:dy f ms=some r):B ms=some r:=by
 unfold dy at e;split at e
 ·rw [h];exact e
 ·cases e
theorem qN {f:MV->MV->MV->Option MV}{B:List MV->Option MV}(h: ∀a b c,B [a,b,c]=f a b c){ms:List MV}{r:MV}(e:GS f ms=some r):B ms=some r:=by
 unfold GS at e;split at e
 ·rw [h];exact e
 ·cases e
theorem Hp {f:MV->MV->MV->MV->Option MV}{B:List MV->Option MV}(h: ∀a b c d,B [a,b,c,d]=f a b c d){ms:List MV}{r:MV}(e:WD f ms=some r):B ms=some r:=by
 unfold WD at e;split at e
 ·rw [h];exact e
 ·cases e
theorem adG {f:MV->MV->MV->MV->MV->Option MV}{B:List MV->Option MV}(h: ∀a b c d i,B [a,b,c,d,i]=f a b c d i){ms:List MV}{r:MV}(e:ah6 f ms=some r):B ms=some r:=by
 unfold ah6 at e;split at e
 ·rw [h];exact e
 ·cases e
theorem jY.fn {P:Program} {c c':Ctx}{g:Nat->List MV->Option MV}{n:Nat}{fn:Func}{cE:List (List Kd)}{F:List MV->Option MV}(h:jY P c g)(hl:Dr c c')(hgg:c'.g=g)(uB:lW P c.ti)(oM:Sf P c.ti)(hfk: ∀t k,c.fk t=some k->P.underlying t=some (.float k))(UE:E6 P c)(Qa:P.follows .mixedOrders=true)(Ny:xL P c)(hf:P.funcs[n]? =some fn)(hh:L7 c' n fn cE=true)(Cv: ∀f,c.key f=f){fresh:Option Nat}(EW:IQ c' n fn fresh=true)(hF: ∀{ms r},F ms=some r->HV c' cE fresh fn ms=some r):jY P c (bt n F g):=by have hb:=jY.body h hl hgg uB oM hfk UE Qa Ny hf hh Cv EW;refine h.add (λf ms r hk hr=> ?_);refine hb.all f ms r ?_;unfold bt;rw [hk];simp [hF hr]
def Dw {α σ:Type}(p:α->σ->Option (Bool×σ)):σ->List α->Option (List α×σ)
 |s,[]=>some ([],s)
 |s,x::xs=>bd (p x s) λq=>bd (Dw p q.2 xs) λr=>some (if q.1 then r.1 else x::r.1,r.2)
theorem aaf {l:List MV} {α:Type}{M:List α}{f:α->MV}(e:l=M.map f)(h: ∀x,R7 (f x)=true):l.all R7=true:=by subst e;rw [List.all_map,aca];intro x _;exact h x
theorem aag {α σ:Type}{f:α->MV}{lv:σ->List MV}{g:Nat->List MV->Option MV}{k:Nat}{cE:List MV}{p:α->σ->Option (Bool×σ)}(h: ∀x s,Sm (λr=>MV.fb (.b r.1) (lv r.2)) (g k (f x::(cE++[.cell (.func 0 (lv s))]))) (p x s)): ∀(s:σ)(L:List α),Sm (λr=>(r.1.map f,lv r.2)) (nk (Lr g k cE) (lv s) (L.map f)) (Dw p s L)
 |s,[]=>rfl
 |s,x::xs=>by
  have hx:=h x s;unfold Sm at hx⊢;simp only [aec,nk,Lr,Dw,hx];cases p x s with
  |none=>rfl
  |some q=>
   have ih:=aag h q.2 xs;unfold Sm at ih;simp only [aeh,ih];show _=Option.map _ (bd (Dw p q.2 xs) λr=>_);cases Dw p q.2 xs with
   |none=>rfl
   |some r=>obtain ⟨b,s'⟩:=q;cases b<;>rfl
end Dn
/-
  What functions of package strings yield: plain and typed. Conditions: none.
-/
namespace Dn
open Go
def ct (c:UInt8):List UInt8->List (List UInt8)
 |[]=>[[]]
 |x::l=>if x=c then []::ct c l else match ct c l with
  |p::r=>(x::p)::r
  |[]=>[[x]]
def IY:List MV->Option MV
 |[.s a,.s b]=>bif (aaL 1 a.length&&aaL a.length (2^46))&&(aaL 2 b.length&&(aaL b.length 1000&&b.all λx=>decide (x.toNat<128))) then some (.s (aiv a b)) else none
 |_=>none
def tk:List MV->Option MV
 |[.s a,.i .i32 r]=>bif decide (0<=r/\r<128) then some (.b (decide (0<=ait a r.toNat.toUInt8))) else none
 |_=>none
def zY:List MV->Option MV
 |[.s a,.s [c]]=>bif aaL a.length 4294967280 then some (.fresh ((ct c a).map MV.s)) else none
 |_=>none
def Mg (a b:List UInt8):Option (List UInt8):=bif (aaL 1 a.length&&aaL a.length (2^46))&&(aaL 2 b.length&&(aaL b.length 1000&&b.all λx=>decide (x.toNat<128))) then some (aiv a b) else none
def Dx (a:List UInt8)(r:Int):Option Bool:=bif decide (0<=r/\r<128) then some (decide (0<=ait a r.toNat.toUInt8)) else none
def NH (a s:List UInt8):Option (List (List UInt8)):=match s with
 |[c]=>bif aaL a.length 4294967280 then some (ct c a) else none
 |_=>none
theorem ah7 (a b:List UInt8):Sm MV.s (IY [.s a,.s b]) (Mg a b):=by unfold Sm IY Mg;dsimp only;cases (aaL 1 a.length&&aaL a.length (2^46))&&(aaL 2 b.length&&(aaL b.length 1000&&b.all λx=>decide (x.toNat<128)))<;>rfl
theorem WE (a:List UInt8)(r:Int):Sm MV.b (tk [.s a,.i .i32 r]) (Dx a r):=by unfold Sm tk Dx;dsimp only;cases decide (0<=r/\r<128)<;>rfl
theorem adH (a s:List UInt8):Sm (KR MV.s) (zY [.s a,.s s]) (NH a s):=by
 unfold Sm NH;split
 ·rename_i c;unfold zY;dsimp only;cases aaL a.length 4294967280<;>rfl
 ·rename_i h;unfold zY;split
  ·rename_i h2;simp only [adB,MV.s.injEq,and_true] at h2;exact absurd h2.2 (h _)
  ·rfl
end Dn
/-
  Functions of package strings as table entries, by the shelf's contracts. Conditions: none.
-/
namespace Dn
open Go
theorem WG (c:UInt8): ∀l:List UInt8,Lib.splitK [c] 0 (Lib.count l [c]) l=ct c l:=by
 intro l;induction l with
 |nil=>rw [Lib.count_one];rfl
 |cons b l ih=>
  by_cases hb:b=c
  ·subst hb;have X4:ads (b::l) [b]=0:=by rw [ads];simp [List.isPrefixOf]
   rw [Lib.count_cons_eq,af3,Lib.splitK,X4];simp [ct,ih]
  ·rw [Lib.count_cons_ne b c l hb];have hp:([c]:List UInt8).isPrefixOf (b::l)=false:=by simp [List.isPrefixOf,ah0 hb]
   have X4:ads (b::l) [c]=if ads l [c]== -1 then-1 else ads l [c]+1:=by rw [ads,hp];simp
   simp only [ct,hb,if_false];rw [<-ih];cases hk:Lib.count l [c] with
   |zero=>rfl
   |succ k=>
    have dG:ads l [c]≠ -1:=by intro he;rw [Lib.count_miss he] at hk;cases hk
    have hge:=Lib.index_ge l [c];obtain ⟨j,hj⟩: ∃j:Nat,ads l [c]=j:=⟨(ads l [c]).toNat,by omega⟩
    have adI:(ads l [c]== -1)=false:=by simpa using dG
    rw [adI,if_neg (by decide)] at X4;have apc:(ads (b::l) [c]== -1)=false:=by rw [X4,hj];simp;omega
    rw [Lib.splitK,Lib.splitK,adI,apc,X4,hj];have e1:((j:Int)+1).toNat=j+1:=by omega
    simp [e1]
theorem WH (c:UInt8)(s:ByteArray):(af8 ⟨#[c]⟩ 0 (acG s ⟨#[c]⟩) s).map (·.data.toList)=ct c s.data.toList:=by rw [Lib.splitB_data];exact WG c _
section
variable {P:Program} {ρ:Go.Shelf.Ren}{c:Ctx}
theorem Fg {f:FuncId}{args:Array Value}{w:World}{S:Ending->World->Prop}{R:Value->World->Prop}(he: ∀args w,(callFunc f args).run P w= .ok (.enter f args) w)(hc:Calls P f args w S)(h: ∀e w',S e w'-> ∃v,e= .returned v/\R v w'): ia P f args w R:=by unfold ia;rw [he];exact hc.mono h
theorem NI {key:Nat->Nat} {φ:Ph}{v:Value}{l:List UInt8}(h:ni key φ [v] (.s l)): ∃b:ByteArray,v= .string b/\b.data.toList=l:=by generalize hv:[v]=vs at h;cases h;rename_i b;exact ⟨b,by simpa using hv,rfl⟩
theorem U1 {Z:Nat->Prop} {φ:Ph}{w:World}{k:Nat}{vs:List Value}{a b:List UInt8}(hg:c.fj k=false)(h:fS c Z φ w k vs [.s a,.s b]): ∃x y:ByteArray,vs=[.string x,.string y]/\x.data.toList=a/\y.data.toList=b:=by simp only [fS,hg,By,if_false] at h;obtain ⟨v,u,rfl,⟨_,h1⟩,v2,u2,rfl,⟨_,h2⟩,rfl⟩:=h;obtain ⟨x,rfl,hx⟩:=NI h1;obtain ⟨y,rfl,hy⟩:=NI h2;exact ⟨x,y,rfl,hx,hy⟩
theorem adJ {Z:Nat->Prop} {φ:Ph}{w:World}{k:Nat}{kd:IntKind}{vs:List Value}{a:List UInt8}{n:Int}(hg:c.fj k=false)(h:fS c Z φ w k vs [.s a,.i kd n]): ∃x:ByteArray,vs=[.string x,.int kd n]/\x.data.toList=a:=by simp only [fS,hg,By,if_false] at h;obtain ⟨v,u,rfl,⟨_,h1⟩,v2,u2,rfl,⟨_,h2⟩,rfl⟩:=h;obtain ⟨x,rfl,hx⟩:=NI h1;generalize hv:[v2]=vs at h2;cases h2;simp at hv;subst hv;exact ⟨x,rfl,hx⟩
theorem WI (w:World)(q:Nat):Rest w (w.drewN q):=⟨rfl,rfl,rfl,λ_=>rfl⟩
theorem aah {φ:Ph}{w:World}(hi:B6 φ w){b:Nat}(hb:w.heap.size<=b)(off:Nat):φ b off=none:=by
 cases hp:φ b off with
 |none=>rfl
 |some u=>have:=ab4 w _ (hi _ _ _ hp);simp at this;omega
theorem adK (L:aiB P ρ)(alq:(P.info? (ρ.t 116)).map (λi=>(i.zero,i.size))=some (some (.agg (IS 256 (.bool false))),256))(hg:c.fj (c.key (ρ.f 160))=false){ms:List MV}{r:MV}(h:IY ms=some r): lX P c (ρ.f 160) ms r:=by
 unfold IY at h;split at h
 ·rename_i a b;cases hb:(aaL 1 a.length&&aaL a.length (2^46))&&(aaL 2 b.length&&(aaL b.length 1000&&b.all λx=>decide (x.toNat<128))) with
  |false=>rw [hb] at h;cases h
  |true=>
   rw [hb] at h;simp only [cond_true,IN] at h;subst h;simp only [sh] at hb;obtain ⟨⟨h1,h2⟩,h3,h4,h5⟩:=hb;have h1:=No h1;have h2:=No h2;have h3:=No h3;have h4:=No h4;intro φ w Z vs hz ha hi;obtain ⟨x,y,rfl,rfl,rfl⟩:=U1 hg ha;refine Fg (af0 L.f160 (by kernel_rfl) rfl) (Go.Proofs.Any.strings_Trim_set L (Go.zero_of_info alq).1 (Go.zero_of_info alq).2 x y w (by rw [afD];exact h3) (by rw [afD];omega) (by rw [afD];omega) (by rw [afD];omega) (Go.Proofs.ascii_of_all h5)) ?_;rintro e w' ⟨rfl,q,rfl⟩;refine ⟨_,rfl,φ,?_,?_,?_⟩
   ·have g1:=eI.alloc w (aeu y.data.toList) (ρ.t 116);have g2:=eI.alloc (w.alloc (.cells (aeu y.data.toList) (ρ.t 116))) (aeu y.data.toList) (ρ.t 116);have g:=g1.trans' g2;exact ⟨.refl φ,λb _ hl=>g.A0 b hl,λ_ _ _=>rfl,g.size,g.rest.trans (WI _ q)⟩
   ·intro b o v hv;have g1:=eI.alloc w (aeu y.data.toList) (ρ.t 116);have g2:=eI.alloc (w.alloc (.cells (aeu y.data.toList) (ρ.t 116))) (aeu y.data.toList) (ρ.t 116);exact (g1.trans' g2).cell (hi b o v hv)
   ·exact ⟨rfl,by have:=ni.s (key:=c.key) (φ:=φ) (⟨(aiv x.data.toList y.data.toList).toArray⟩:ByteArray);simpa using this⟩
 ·cases h
theorem S4 (L:aiC P ρ)(hg:c.fj (c.key (ρ.f 151))=false){ms:List MV}{r:MV}(h:tk ms=some r):lX P c (ρ.f 151) ms r:=by
 unfold tk at h;split at h
 ·rename_i a n;cases hb:decide (0<=n/\n<128) with
  |false=>rw [hb] at h;cases h
  |true=>rw [hb] at h;simp only [cond_true,IN] at h;subst h;obtain ⟨h1,h2⟩:=of_decide_eq_true hb;intro φ w Z vs hz ha hi;obtain ⟨x,rfl,rfl⟩:=adJ hg ha;refine Fg (af0 L.f151 (by kernel_rfl) rfl) (ag7 L x n w h1 h2) ?_;rintro e w' ⟨rfl,rfl⟩;exact ⟨_,rfl,φ,.refl _ _ _,hi,rfl,.b _⟩
 ·cases h
open Go.Proofs Go.Shelf Go.RowKit in
theorem WJ (L:ahr P ρ)(hi9:(P.info? (ρ.t 9)).map (λi=>(i.zero,i.size,i.bytes))=some (some (.string ByteArray.empty),1,16))(s:ByteArray)(b:UInt8)(w:World)(hs:s.size<4294967281): Calls P (ρ.f 146) #[.string s,.string ⟨#[b]⟩] w λe w'=>
  e= .returned (.slice (some ⟨w.heap.size,0,none⟩) (acG s ⟨#[b]⟩+1) (acG s ⟨#[b]⟩+1))/\w'=w.alloc (.cells ((af8 ⟨#[b]⟩ 0 (acG s ⟨#[b]⟩) s).map af4).toArray (ρ.t 9)):=by
 have h1:1<=(⟨#[b]⟩:ByteArray).size:=OF _;have hle:=Lib.countB_le ⟨#[b]⟩ h1 s.size s (OF _);have hlen:=Lib.splitB_all ⟨#[b]⟩ h1 0 _ s rfl;have hC:Calls P (ρ.f 138) #[.string s,.string ⟨#[b]⟩] w λe w'=>e= .returned (.int .i64 (acG s ⟨#[b]⟩))/\w'=w:=by
  refine (Any.strings_Count_one {L with} s b w).mono λe w' ⟨he,hw⟩=>⟨?_,hw⟩
  rw [he];show _=Ending.returned (aiD .i64 ((Lib.count s.data.toList [b]:Nat):Int));rw [Lib.count_one];rfl
 have c:=Any.strings_genSplit_core {L with} hi9 s ⟨#[b]⟩ 0 (-1) (acG s ⟨#[b]⟩+1) w hs h1 (aco _) (λx q hx=>(Any.strings_Index_one {L with} x b _).mono λe w' ⟨he,hw⟩=>⟨by rw [he];show _=Ending.returned (aiD .i64 (ads x.data.toList [b]));rw [Lib.index_one],hw⟩) hC (by decide) (by decide) (by rw [if_pos (by decide)];omega);rw [Nat.add_sub_cancel,hlen] at c;have e2:Lib.cellsOf (af8 ⟨#[b]⟩ 0 (acG s ⟨#[b]⟩) s) (acG s ⟨#[b]⟩+1)=((af8 ⟨#[b]⟩ 0 (acG s ⟨#[b]⟩) s).map af4).toArray:=by rw [<-hlen];exact Lib.cellsOf_full _
 rw [e2] at c;clear hC hlen hle e2;have t3:=L.t3;have t9:=L.t9;have t31:=L.t31;have a3:=L.a3;have a9:=L.a9;have a31:=L.a31;have z3:=L.z3;have v3:=L.v3;have z9:=L.z9;have v9:=L.v9;have z31:=L.z31;have v31:=L.v31;have atx: ∀args w,(callFunc (ρ.f 221) args).run P w= .ok (.enter (ρ.f 221) args) w:=enters_of L.f221 (by kernel_rfl) rfl;go_enter L.f146,Body.n146_ntmps ρ;go_wp2_with (go_at_fn (ρ.f 221);refine c.mono ?_;rintro e w' ⟨rfl,hw⟩;rw [hw]);go_ret;exact ⟨rfl,rfl⟩
theorem IZ {key:Nat->Nat} {φ:Ph}: ∀l:List ByteArray,bx key φ 1 (l.map af4) (l.map λb=>MV.s b.data.toList)
 |[]=>rfl
 |b::l=>⟨[.string b],_,rfl,rfl,.s b,IZ l⟩
theorem aai {I:TI}(L:ahr P ρ)(hi9:(P.info? (ρ.t 9)).map (λi=>(i.zero,i.size,i.bytes))=some (some (.string ByteArray.empty),1,16))(hg:c.fj (c.key (ρ.f 146))=false)(kS:c.sw (c.key (ρ.f 146))=ρ.t 9)(hI:c.tv (ρ.t 9)=some I)(O0:I.size=1){ms:List MV}{r:MV}(h:zY ms=some r):lX P c (ρ.f 146) ms r:=by
 unfold zY at h;split at h
 ·rename_i a b;cases hb:aaL a.length 4294967280 with
  |false=>rw [hb] at h;cases h
  |true=>
   rw [hb] at h;simp only [cond_true,IN] at h;subst h;have hb:=No hb;intro φ w Z vs hz ha hi;obtain ⟨x,y,rfl,rfl,hy⟩:=U1 hg ha;have hy':y=⟨#[b]⟩:=by
    cases y with
    |mk d=>congr 1;apply adn.1;exact hy
   subst hy';have hs:x.size<4294967281:=by rw [afD];omega
   refine Fg (af0 L.f146 (by kernel_rfl) rfl) (WJ L hi9 x b w hs) ?_;rintro e w' ⟨rfl,rfl⟩;have h1:1<=(⟨#[b]⟩:ByteArray).size:=OF _;have hle:=Lib.countB_le ⟨#[b]⟩ h1 x.size x (OF _);have hlen:=Lib.splitB_all ⟨#[b]⟩ h1 0 _ x rfl;have oM:=WH b x;have g1:=eI.alloc w ((af8 ⟨#[b]⟩ 0 (acG x ⟨#[b]⟩) x).map af4).toArray (ρ.t 9);obtain ⟨uB,hc⟩:=b8 hI;refine ⟨_,rfl,φ,g1.trans (Z:=b7.plain Z) hz φ,λb' o v hv=>g1.cell (hi b' o v hv),?_⟩;show dI _ _ _ _ _ ⟨c.sw (c.key (ρ.f 146)),false,_⟩;rw [kS];generalize hpc:af8 ⟨#[b]⟩ 0 (acG x ⟨#[b]⟩) x=pcs at *;rw [<-oM,ahF];refine ⟨I,pcs.map af4,uB,hc,?_,by rw [O0];exact IZ pcs,?_⟩
   ·rw [O0];refine ⟨by simp,.inr ⟨w.heap.size,acG x ⟨#[b]⟩+1,_,by simp [hlen],aco _,nF w _,by simp [hlen],by unfold Go.maxLen;rw [afD] at hle;omega,by simp [hlen],?_⟩⟩;simp [aaS]
   ·intro bG mD;simp [adm] at mD;subst mD;exact ⟨hz _ (OF _),λoff u hu=>(by have hu:φ w.heap.size off=some u:=hu;rw [aah hi (OF _)] at hu;cases hu),λhc=>False.elim hc⟩
 ·cases h
end
end Dn
/-
  slices.IndexFunc and slices.DeleteFunc of the library, walked, with whatever function. Conditions: none.
-/
namespace Dn
open Go
section
variable {P:Program}{Q:Exit->Act->World->Prop}{ops:Array Oper}{o:Oper}{a:Act} {w w':World}{n:Nat} {σ:Nat->Value}
theorem tm2 (v0 v1:Value)(k:Nat):Tm {tmps:= #[v0,v1]++IS k undef,defers:=[]} (k+2) (zT (zT (λ_=>undef) 0 v0) 1 v1):=by
 refine ⟨rfl,by simp [af3],λq=> ?_⟩;by_cases h0:q=0
 ·subst h0;show (#[v0,v1]++IS k undef).getD 0 undef=v0;simp [ach]
 by_cases h1:q=1
 ·subst h1;show (#[v0,v1]++IS k undef).getD 1 undef=v1;simp [ach]
 have e: ∀{x y:Nat},x≠y->acm x y=false:=λ{x y} h=>by
  cases hq:acm x y with
  |false=>rfl
  |true=>exact absurd (IT hq) h
 simp only [zT,e h0,e h1,cond_false];have h3:2<=q:=by omega
 simp [ach,agq,show¬q<2 by omega];by_cases hk:q-2<k<;>simp [hk]
theorem Tm.call {i d:Nat}{op:Op}{rest:List Nat}{f:Nat}{args:Array Value}{Rp:Value->World->Prop}(aM:Tm a n σ)(hi:ops[i]? =some o)(ho:aY o d op)(hd:d<n)(cB:(execOp (ev σ) o).run P w=(callFunc f args).run P w)(hc:ia P f args w Rp)(h: ∀v w' a',Rp v w'->Tm a' n (zT σ d v)->wpOps P ops Q rest a' w'):wpOps P ops Q (i::rest) a w:=by rw [wpOps_cons];unfold wpOp;simp only [hi,aaq,ho.guard,if_true];left;refine wm (by rw [aM.eval];exact cB) hc ?_;intro v w' hr;rw [ho.dst];exact h v w' _ hr (aM.put hd v)
theorem NJ {d:Nat}{t el:TypeId}{x y:Operand}{e:Operand->Value}{g n c j size:Nat}{i:TypeInfo}(ho:aY o d (.indexAddr t x y))(hu:P.underlying t=some (.slice el))(hi:P.info? el=some i)(hs:i.size=size)(hx:e x= .slice (some ⟨g,0,none⟩) n c)(hy:e y= .int .i64 ((j:Nat):Int))(hj:j<n)(w:World):(execOp e o).run P w= .ok (.value (.pointer (some ⟨g,j *size,none⟩))) w:=by
 have h2: ¬n<=j:=by omega
 simp [execOp,ho.op,hx,hy,Instr.indexAt,asIntOf,run_underlying hu,h2,af6,typeInfo,hi,hs,adt]
theorem Hq {c:Ctx}{d:Nat}{t:TypeId}{I:TI}{x:Operand}{e:Operand->Value}{g off:Nat}{vs:List Value}(ho:aY o d (.load t x))(hr:om c.ti P t I)(hc:I.dw=[])(eR:I.st=true)(hl:vs.length=I.size)(hx:e x= .pointer (some ⟨g,off,none⟩))(hm:w.rangeAt g off vs):(execOp e o).run P w= .ok (.value (.agg vs.toArray)) w:=by
 rcases oV (P:=P) hr hc hl hm with ⟨_,h⟩|⟨h,_⟩
 ·have:=h w hm;simp [execOp,ho.op,hx,this]
 ·rw [eR] at h;cases h
theorem adL {d:Nat}{t:TypeId}{e:Operand->Value}{i:TypeInfo}{z:Value}(ho:aY o d (.alloc t))(hi:P.info? t=some i)(hz:i.zero=some z)(w:World): (execOp e o).run P w= .ok (.value (.pointer (some ⟨w.heap.size,0,none⟩))) (w.alloc (.cells z.cells t)):=by simp [execOp,ho.op,Instr.alloc,zeroValue,typeInfo,hi,hz,newVar,newRow,newObj,Sem.run]
theorem U2 {c:Ctx}{t:TypeId}{I:TI}{x y:Operand}{e:Operand->Value}{g off:Nat}{v:Value}{arr:Array Value}{T:TypeId}(ho:Gd o (.store t x y))(hr:om c.ti P t I)(hc:I.dw=[])(hx:e x= .pointer (some ⟨g,off,none⟩))(hy:e y=v)(hs:v.cells.toList.length=I.size)(jP: ∀u∈v.cells.toList,u.oneCell'=true)(dB:w.heap[g]? =some (.cells arr T (0,0)))(zg:off+I.size<=arr.size): (execOp e o).run P w= .ok .skip (w.setRow g (arr.toList.take off++v.cells.toList++arr.toList.drop (off+I.size)).toArray):=by have:=nH (P:=P) (w:=w) hr hc hs jP dB zg;simp [execOp,ho.op,hx,hy,this]
theorem Tm.agc {i:Nat}{op:Op}{rest:List Nat}(aM:Tm a n σ)(hi:ops[i]? =some o)(ho:Gd o op)(cB:(execOp (ev σ) o).run P w= .ok .skip w')(h:wpOps P ops Q rest a w'):wpOps P ops Q (i::rest) a w:=by rw [wpOps_cons];unfold wpOp;simp only [hi,aaq,ho.guard,if_true];left;unfold af1;rw [aM.eval,cB];simp only [af5];rw [ho.dst];exact h
theorem Qi {d:Nat} {t t':TypeId}{x y:Operand}{e:Operand->Value}{p q:Int}(ho:aY o d (.binOp .lss t x y t'))(hx:e x= .int .i64 p)(hy:e y= .int .i64 q)(w:World): (execOp e o).run P w= .ok (.value (.bool (decide (p<q)))) w:=zU ho hx hy (λw=>by simp [agA,aiu]) w
theorem U3 {d:Nat}{x y:Operand}{t:Array TypeId}{e:Operand->Value}{g:Nat}{lb:Array Value}{v:Value}(ho:aY o d (.call {callee:= .value x,args:= #[y],argTypes:=t})) (hx:e x= .func (.func g) #[] lb) (hy:e y=v) (w:World): (execOp e o).run P w=(callFunc g (#[v]++lb)).run P w:=by simp [execOp,ho.op,resolve,invoke,hx,hy,afw]
theorem adM {d:Nat}{x y:Operand}{t:Array TypeId}{e:Operand->Value}{g:Nat}{v u:Value}(ho:aY o d (.call {callee:= .value (.func g),args:= #[x,y],argTypes:=t})) (he:e (.func g)= .func (.func g) #[] #[]) (hx:e x=v) (hy:e y=u) (w:World): (execOp e o).run P w=(callFunc g #[v,u]).run P w:=by simp [execOp,ho.op,resolve,invoke,he,hx,hy,afw]
end
def NK (r:Nat->Nat)(o:Nat->Oper):Code:= .seq (.region (r 0) #[o 0] false) (.seq (.seq (.region (r 1) #[o 1,o 2,o 3] false) (.block 0 (.loop (.seq (.region (r 2) #[o 4] false) (.seq (.cond (.tmp 9) .skip (.exit 0)) (.seq (.block 1 (.seq (.region (r 3) #[o 5,o 6] false) (.seq (.region (r 4) #[o 7,o 8,o 9,o 10,o 11,o 12] false) (.cond (.tmp 16) (.seq (.region (r 5) #[o 13,o 14] false) .ret) .skip)))) (.region (r 6) #[o 15,o 16] false))))))) (.seq (.region (r 7) #[o 17] false) .ret))
structure ah8 (t el ti:Nat) (o:Nat->Oper):Prop where
 h0:aY (o 0) 4 (.assign (.const (.int .i64 0)))
 h1:aY (o 1) 6 (.move (.tmp 0))
 h2:aY (o 2) 7 (.call {callee:= .builtin .len,args:= #[.tmp 6],argTypes:= #[t]})
 h3:aY (o 3) 8 (.move (.const (.int .i64 0)))
 h4:aY (o 4) 9 (.binOp .lss ti (.tmp 8) (.tmp 7) ti)
 h5:aY (o 5) 10 (.move (.tmp 8))
 h6:aY (o 6) 5 (.assign (.tmp 10))
 h7:aY (o 7) 11 (.move (.tmp 1))
 h8:aY (o 8) 12 (.move (.tmp 0))
 h9:aY (o 9) 13 (.move (.tmp 5))
 UH:aY (o 10) 14 (.indexAddr t (.tmp 12) (.tmp 13))
 SW:aY (o 11) 15 (.load el (.tmp 14))
 SX:aY (o 12) 16 (.call {callee:= .value (.tmp 11),args:= #[.tmp 15],argTypes:= #[el]})
 SY:aY (o 13) 17 (.move (.tmp 5))
 SZ:aY (o 14) 4 (.assign (.tmp 17))
 O5:aY (o 15) 18 (.binOp .add ti (.tmp 8) (.const (.int .i64 1)) ti)
 S0:aY (o 16) 8 (.move (.tmp 18))
 ZX:aY (o 17) 4 (.assign (.const (.int .i64 (-1))))
structure aaj (P:Program) (f t ti el:Nat) (fn:Func) (r:Nat->Nat) (o:Nat->Oper):Prop where
 pos:P.funcs[f]? =some fn
 name:(fn.name== "runtime.NumGoroutine")=false
 tmps:fn.ntmps=19
 res:fn.results= #[.tmp 4]
 body:fn.body=some (NK r o)
 ops:ah8 t el ti o
 xp:P.underlying t=some (.slice el)
theorem NL {P:Program}{fn:Func}{n:Nat}{a:Act}{w:World} {σ:Nat->Value}{R:Ending->World->Prop}{v:Value}(hr:fn.results= #[.tmp 4])(aM:Tm a n σ)(h6:σ 4=v)(h:R (.returned v) w):bodyPost P fn R .ret a w:=by
 refine ⟨aM.defers,v,?_,h⟩;have h2:a.tmps[4]?.getD undef=v:=by have:=aM.get 4;rw [h6] at this;simpa using this
 simp [results,hr,h2]
theorem Qj {key:Nat->Nat} {φ:Ph}{size:Nat}{xs:List MV}{cells:List Value}(h:bx key φ size cells xs){k:Nat}(hk:k<xs.length): ((cells.drop (k *size)).take size).length=size/\ni key φ ((cells.drop (k *size)).take size) xs[k]:=by
 obtain ⟨p1,v1,p2,he,A3,sE,gl⟩:=h.at (abr hk);have:(cells.drop (k *size)).take size=v1:=by rw [he,ade,<-A3,ah1,<-sE,ahk]
 rw [this];exact ⟨sE,gl⟩
theorem I3 {key:Nat->Nat} {φ:Ph}{vs:List Value}{x:MV}(h:ni key φ vs x){ms:List MV}(hx:x= .agg ms):gf key φ (.agg vs.toArray) x:=by
 subst hx;cases h with
 |agg _ _ h=>exact ⟨vs.toArray,rfl,by simpa using h⟩
section
variable {P:Program}{c:Ctx}{f t ti el:Nat}{fn:Func}{r:Nat->Nat}{o:Nat->Oper}{E:TI}{n cp g0 g:Nat}{ad:Option Addr}{ob:Option Nat}{w:World}{lb:Array Value}{S:Type}{Inv:S->(Nat->Prop)->Ph->World->Prop}{step:S->MV->Option (Bool×S)}
theorem aak (hf:aaj P f t ti el fn r o)(hp:xK P c g lb Inv step)(hT:lW P c.ti)(hE:c.tv el=some E)(eR:E.st=true){xs:List MV}{cells:List Value}{dM:Array Value}{T:TypeId} {φ0:Ph}{Z0:Nat->Prop} {s0 s':S}{ys:List MV}(IJ: ∀x∈xs,∃ms,x= .agg ms)(PD:0<xs.length->ad=some ⟨g0,0,none⟩/\ob=some g0/\w.heap[g0]? =some (.cells dM T (0,0))/\dM.toList.take (xs.length *E.size)=cells)(X1: ∀b,ob=some b-> ¬Z0 b/\b<w.heap.size/\ ∀off,φ0 b off=none)(kw:bx c.key φ0 E.size cells xs)(alr:xs.length<2^63)(hinv:Inv s0 Z0 φ0 w)(lP: ∀b,w.heap.size<=b->Z0 b)(ki:B6 φ0 w)(hd:nk step s0 xs=some (ys,s')): Calls P f #[.slice ad xs.length cp,.func (.func g) #[] lb] w λe W=> ∃Z φ,(∀b,ob=some b->W.heap[b]? =w.heap[b]?)/\ ((e= .returned (.int .i64 (-1))/\ys=xs/\BL c ob Inv Z0 φ0 w s' Z φ W)\/ ∃k,∃hk:k<xs.length,∃sk,e= .returned (.int .i64 (k:Int))/\nk step s0 (xs.take (k+1))=some (xs.take k,sk)/\BL c ob Inv Z0 φ0 w sk Z φ W):=by
 obtain ⟨oQ,rU⟩:=b8 hE;obtain ⟨ie,z,oP,vM,hby,hz0,Ss⟩:=sY (hT _ E oQ) rU;refine calls_of_wp hf.pos hf.body ?_;rw [hf.tmps];generalize Qk:(λ(e:Ending) (W:World)=> ∃Z φ,(∀b,ob=some b->W.heap[b]? =w.heap[b]?)/\ ((e= .returned (.int .i64 (-1))/\ys=xs/\BL c ob Inv Z0 φ0 w s' Z φ W)\/ ∃k,∃hk:k<xs.length,∃sk,e= .returned (.int .i64 (k:Int))/\nk step s0 (xs.take (k+1))=some (xs.take k,sk)/\BL c ob Inv Z0 φ0 w sk Z φ W))=ah9;have key: ∀a:Act,Tm a 19 (zT (zT (λ_=>undef) 0 (.slice ad xs.length cp)) 1 (.func (.func g) #[] lb))->(NK r o).wp P (bodyPost P fn ah9) a w:=by
  intro a aM;unfold NK;refine wp_seq (wp_region ?_);rw [show c9 (#[o 0]:Array Oper).size=[0] from rfl];refine aM.step (v:= .int .i64 0) rfl hf.ops.h0 (by decide) (dC hf.ops.h0 _) (λa aM=> ?_);refine wp_seq (wp_seq (wp_region ?_));rw [show c9 (#[o 1,o 2,o 3]:Array Oper).size=[0,1,2] from rfl];refine aM.step (v:= .slice ad xs.length cp) rfl hf.ops.h1 (by decide) (aX hf.ops.h1 _) (λa aM=> ?_);refine aM.step (v:= .int .i64 ((xs.length:Nat):Int)) rfl hf.ops.h2 (by decide) (nJ hf.ops.h2 hf.xp rfl _) (λa aM=> ?_);refine aM.step (v:= .int .i64 0) rfl hf.ops.h3 (by decide) (aX hf.ops.h3 _) (λa aM=> ?_);refine wp_block (wp_loop (λa W=> ∃σ,Tm a 19 σ/\σ 0= .slice ad xs.length cp/\σ 1= .func (.func g) #[] lb/\σ 7= .int .i64 ((xs.length:Nat):Int)/\ ∃k:Nat,k<=xs.length/\σ 8= .int .i64 (k:Int)/\ (∀b,ob=some b->W.heap[b]? =w.heap[b]?)/\ ∃s Z φ,nk step s0 (xs.take k)=some (xs.take k,s)/\BL c ob Inv Z0 φ0 w s Z φ W) (λa W=>match a.tmps.getD 8 undef with| .int _ k=>xs.length-k.toNat|_=>0) ?_ ?_)
  ·refine ⟨_,aM,rfl,rfl,rfl,0,aco _,rfl,λ_ _=>rfl,s0,Z0,φ0,rfl,⟨hinv,lP,λb hb=> .inl hb,ki,.refl _ _ _,λb off hb=>(X1 b hb).2.2 off⟩⟩
  ·clear aM;rintro a W ⟨σ,aM,h0,h1,h7,k,hk,h8,Dp,s,Z,φ,hdk,hW⟩;refine wp_seq (wp_region ?_);rw [show c9 (#[o 4]:Array Oper).size=[0] from rfl];have hm8:(match a.tmps.getD 8 undef with| .int _ k=>xs.length-k.toNat|_=>0)=xs.length-k:=by rw [aM.get 8,h8];simp
   rw [hm8];clear hm8;refine aM.step (v:= .bool (decide ((k:Int)<(xs.length:Int)))) rfl hf.ops.h4 (by decide) (Qi hf.ops.h4 h8 h7 _) (λa aM=> ?_);refine wp_seq ?_;by_cases dY:k<xs.length;rotate_left
   ·refine aM.cond (b:=false) (by show acj (decide ((k:Int)<(xs.length:Int)))=_;rw [decide_eq_false (by omega)]) ?_;simp only [By,if_false];refine wp_exit ?_;have X6:k=xs.length:=by omega
    subst X6;rw [agS] at hdk;rw [hd] at hdk;simp only [IN,acs] at hdk;obtain ⟨rfl,rfl⟩:=hdk;show Exit.then _ _ _ _ _;refine wp_seq (wp_region ?_);rw [show c9 (#[o 17]:Array Oper).size=[0] from rfl];refine aM.step (v:= .int .i64 (-1)) rfl hf.ops.ZX (by decide) (dC hf.ops.ZX _) (λa aM=> ?_);refine wp_ret ?_;refine NL hf.res aM (v:= .int .i64 (-1)) rfl ?_;rw [<-Qk];exact ⟨Z,φ,Dp,.inl ⟨rfl,rfl,hW⟩⟩
   ·refine aM.cond (b:=true) (by show acj (decide ((k:Int)<(xs.length:Int)))=_;rw [decide_eq_true (by omega)]) ?_;simp only [if_true];refine wp_skip ?_;obtain ⟨aia,Wc,dB,bR⟩:=PD (by omega);have h0':=h0;rw [aia] at h0';obtain ⟨yk,sk,b,sk',e1,e2,e3⟩:=UN hd dY;rw [hdk] at e1;simp only [IN,acs] at e1;obtain ⟨rfl,rfl⟩:=e1;have aal:=kw.mono hW.tr.ph;obtain ⟨hl,gl⟩:=Qj aal dY;have aib:W.rangeAt g0 (k *E.size) ((cells.drop (k *E.size)).take E.size):=by
     intro j v hj;have KC:j<E.size:=by have:=(acI.1 hj).1;omega
     have hW0:W.heap[g0]? =some (.cells dM T (0,0)):=(Dp g0 Wc).trans dB;rw [cell_of hW0,<-adP];rw [aed KC,acr,<-bR,aej] at hj;split at hj
     ·exact hj
     ·cases hj
    obtain ⟨ms,Wf⟩:=IJ _ (adW dY);have SR:gf c.key φ (.agg ((cells.drop (k *E.size)).take E.size).toArray) xs[k]:=I3 gl Wf;refine wp_seq (wp_block ?_);refine wp_seq (wp_region ?_);rw [show c9 (#[o 5,o 6]:Array Oper).size=[0,1] from rfl];refine aM.step (v:= .int .i64 (k:Int)) rfl hf.ops.h5 (by decide) ((aX hf.ops.h5 _).trans (by show acn (acd (σ 8)) W=_;rw [h8])) (λa aM=> ?_);refine aM.step (v:= .int .i64 (k:Int)) rfl hf.ops.h6 (by decide) (dC hf.ops.h6 _) (λa aM=> ?_);refine wp_seq (wp_region ?_);rw [show c9 (#[o 7,o 8,o 9,o 10,o 11,o 12]:Array Oper).size=[0,1,2,3,4,5] from rfl];refine aM.step (v:= .func (.func g) #[] lb) rfl hf.ops.h7 (by decide) ((aX hf.ops.h7 _).trans (by show acn (acd (σ 1)) W=_;rw [h1])) (λa aM=> ?_);refine aM.step (v:= .slice (some ⟨g0,0,none⟩) xs.length cp) rfl hf.ops.h8 (by decide) ((aX hf.ops.h8 _).trans (by show acn (acd (σ 0)) W=_;rw [h0'])) (λa aM=> ?_);refine aM.step (v:= .int .i64 (k:Int)) rfl hf.ops.h9 (by decide) (aX hf.ops.h9 _) (λa aM=> ?_);refine aM.step rfl hf.ops.UH (by decide) (NJ hf.ops.UH hf.xp oP vM rfl rfl dY _) (λa aM=> ?_);refine aM.step rfl hf.ops.SW (by decide) (Hq hf.ops.SW (hT _ E oQ) rU eR hl rfl aib) (λa aM=> ?_);refine aM.call rfl hf.ops.SX (by decide) (U3 hf.ops.SX rfl rfl _) (hp.call hW.inv hW.new hW.qe SR e2) ?_;rintro v W2 a ⟨rfl,φ',t1,t2,t3⟩ aM;have hnz: ∀b,ob=some b-> ¬Z b:=λb hb hz=>by
     have:=X1 b hb;rcases hW.sub _ hz with h|h
     ·exact this.1 h
     ·omega
    have Uy: ∀b,ob=some b->W2.heap[b]? =w.heap[b]? :=λb hb=>(t1.heap b (hnz b hb) (aei (X1 b hb).2.1 hW.tr.size)).trans (Dp b hb);have WC:BL c ob Inv Z0 φ0 w sk' Z φ' W2:=⟨t3,λb hb=>hW.new b (acT t1.size hb),hW.sub,t2,hW.tr.trans (t1.sup λb hb=> .inl (hW.sub b hb)),λb off hb=>by rw [t1.free b off (hnz b hb)];exact hW.free b off hb⟩
    cases b with
    |true=>refine aM.cond (b:=true) rfl ?_;simp only [if_true];refine wp_seq (wp_region ?_);rw [show c9 (#[o 13,o 14]:Array Oper).size=[0,1] from rfl];refine aM.step (v:= .int .i64 (k:Int)) rfl hf.ops.SY (by decide) (aX hf.ops.SY _) (λa aM=> ?_);refine aM.step (v:= .int .i64 (k:Int)) rfl hf.ops.SZ (by decide) (dC hf.ops.SZ _) (λa aM=> ?_);refine wp_ret ?_;refine NL hf.res aM (v:= .int .i64 (k:Int)) rfl ?_;rw [<-Qk];exact ⟨Z,φ',Uy,.inr ⟨k,dY,sk',rfl,e3,WC⟩⟩
    |false=>
     refine aM.cond (b:=false) rfl ?_;simp only [By,if_false];refine wp_skip ?_;show Code.wp P (agk (r 6) #[o 15,o 16] false) _ a W2;refine wp_region ?_;rw [show c9 (#[o 15,o 16]:Array Oper).size=[0,1] from rfl];refine aM.step (v:= .int .i64 ((k+1:Nat):Int)) rfl hf.ops.O5 (by decide) (kU (q:=1) hf.ops.O5 h8 rfl (by omega) _) (λa aM=> ?_);refine aM.step (v:= .int .i64 ((k+1:Nat):Int)) rfl hf.ops.S0 (by decide) (aX hf.ops.S0 _) (λa aM=> ?_);refine ⟨⟨_,aM,h0,h1,h7,k+1,by omega,rfl,Uy,sk',Z,φ',?_,WC⟩,?_⟩
     ·rw [e3];have e4:xs.take (k+1)=xs.take k++[xs[k]]:=by rw [ahE,abr dY];rfl
      rw [e4];rfl
     ·have:a.tmps.getD 8 undef= .int .i64 ((k+1:Nat):Int):=by rw [aM.get 8];rfl
      rw [this];simp;omega
 exact key _ (tm2 _ _ 17)
end
end Dn
/-
  slices.DeleteFunc of the library, walked, with whatever function. Conditions: none.
-/
namespace Dn
open Go
theorem zZ {P:Program}{f:Nat}{fn:Func}{b:Code}{args:Array Value}{w:World}{R:Value->World->Prop}(fm:P.funcs[f]? =some fn)(Dj:(fn.name== "runtime.NumGoroutine")=false)(q0:fn.body=some b)
 (h:Calls P f args w λe W=> ∃v,e= .returned v/\R v W):ia P f args w R:=by
 have cB:(callFunc f args).run P w= .ok (.enter f args) w:=by
  have GL: ¬fn.name= "runtime.NumGoroutine" :=by simpa using Dj
  simp [callFunc,fm,GL,q0]
 unfold ia;rw [cB];exact h
def I4 (r:Nat->Nat)(o:Nat->Oper):Code:= .seq (.region (r 0) #[o 0] false) (.seq (.region (r 1) #[o 1,o 2,o 3,o 4] false) (.seq (.seq (.region (r 2) #[o 5,o 6] false) (.cond (.tmp 12) (.seq (.region (r 3) #[o 7,o 8] false) .ret) .skip)) (.seq (.seq (.region (r 4) #[o 9,o 10,o 11] false) (.block 0 (.loop (.seq (.seq (.region (r 5) #[o 12,o 13,o 14,o 15] false) (.cond (.tmp 19) .skip (.exit 0))) (.seq (.block 1 (.seq (.region (r 6) #[o 16,o 17,o 18,o 19,o 20,o 21] false) (.seq (.region (r 7) #[o 22,o 23,o 24,o 25] false) (.cond (.tmp 29) (.seq (.region (r 8) #[o 26,o 27,o 28,o 29,o 30] false) (.region (r 9) #[o 31,o 32,o 33] false)) .skip)))) (.region (r 10) #[o 34,o 35,o 36] false)))))) (.seq (.region (r 11) #[o 37,o 38,o 39,o 40] false) (.seq (.region (r 12) #[o 41,o 42,o 43,o 44] false) .ret)))))
structure adN (t el ti tb fu fi:Nat) (o:Nat->Oper):Prop where
 h0:aY (o 0) 4 (.assign (.const (.slice none 0 0)))
 h1:aY (o 1) 8 (.move (.tmp 0))
 h2:aY (o 2) 9 (.move (.tmp 1))
 h3:aY (o 3) 10 (.call {callee:= .value (.func fi),args:= #[.tmp 8,.tmp 9],argTypes:= #[t,fu]})
 h4:aY (o 4) 5 (.assign (.tmp 10))
 h5:aY (o 5) 11 (.move (.tmp 5))
 h6:aY (o 6) 12 (.binOp .eql ti (.tmp 11) (.const (.int .i64 (-1))) ti)
 h7:aY (o 7) 13 (.move (.tmp 0))
 h8:aY (o 8) 4 (.assign (.tmp 13))
 h9:aY (o 9) 14 (.move (.tmp 5))
 UH:aY (o 10) 15 (.binOp .add ti (.tmp 14) (.const (.int .i64 1)) ti)
 SW:aY (o 11) 6 (.assign (.tmp 15))
 SX:aY (o 12) 16 (.move (.tmp 6))
 SY:aY (o 13) 17 (.move (.tmp 0))
 SZ:aY (o 14) 18 (.call {callee:= .builtin .len,args:= #[.tmp 17],argTypes:= #[t]})
 O5:aY (o 15) 19 (.binOp .lss ti (.tmp 16) (.tmp 18) ti)
 S0:aY (o 16) 22 (.move (.tmp 0))
 ZX:aY (o 17) 23 (.move (.tmp 6))
 h18:aY (o 18) 24 (.indexAddr t (.tmp 22) (.tmp 23))
 h19:aY (o 19) 25 (.load el (.tmp 24))
 h20:aY (o 20) 7 (.alloc el)
 h21:Gd (o 21) (.store el (.tmp 7) (.tmp 25))
 h22:aY (o 22) 26 (.move (.tmp 1))
 h23:aY (o 23) 27 (.load el (.tmp 7))
 h24:aY (o 24) 28 (.call {callee:= .value (.tmp 26),args:= #[.tmp 27],argTypes:= #[el]})
 h25:aY (o 25) 29 (.unOp .not tb (.tmp 28))
 h26:aY (o 26) 30 (.move (.tmp 0))
 h27:aY (o 27) 31 (.move (.tmp 5))
 h28:aY (o 28) 32 (.load el (.tmp 7))
 h29:aY (o 29) 33 (.indexAddr t (.tmp 30) (.tmp 31))
 ZY:Gd (o 30) (.store el (.tmp 33) (.tmp 32))
 h31:aY (o 31) 34 (.move (.tmp 5))
 h32:aY (o 32) 35 (.binOp .add ti (.tmp 34) (.const (.int .i64 1)) ti)
 h33:aY (o 33) 5 (.assign (.tmp 35))
 h34:aY (o 34) 20 (.move (.tmp 6))
 h35:aY (o 35) 21 (.binOp .add ti (.tmp 20) (.const (.int .i64 1)) ti)
 h36:aY (o 36) 6 (.assign (.tmp 21))
 h37:aY (o 37) 36 (.move (.tmp 0))
 h38:aY (o 38) 37 (.move (.tmp 5))
 h39:aY (o 39) 38 (.slice t (.tmp 36) (some (.tmp 37)) none none)
 h40:Gd (o 40) (.call {callee:= .builtin .clear,args:= #[.tmp 38],argTypes:= #[t]})
 h41:aY (o 41) 39 (.move (.tmp 0))
 h42:aY (o 42) 40 (.move (.tmp 5))
 h43:aY (o 43) 41 (.slice t (.tmp 39) none (some (.tmp 40)) none)
 h44:aY (o 44) 4 (.assign (.tmp 41))
structure aam (P:Program) (f t ti tb fu fi el:Nat) (fn:Func) (r:Nat->Nat) (o:Nat->Oper):Prop where
 pos:P.funcs[f]? =some fn
 name:(fn.name== "runtime.NumGoroutine")=false
 tmps:fn.ntmps=42
 res:fn.results= #[.tmp 4]
 body:fn.body=some (I4 r o)
 ops:adN t el ti tb fu fi o
 xp:P.underlying t=some (.slice el)
section
variable {P:Program}{c:Ctx}{f fi t ti tb fu el:Nat}{fn fni:Func}{r ri:Nat->Nat}{o oi:Nat->Oper}{E:TI}{cp g0 g:Nat}{ad:Option Addr}{ob:Option Nat}{w W W2:World}{lb:Array Value}{S:Type}{Inv:S->(Nat->Prop)->Ph->World->Prop}{step:S->MV->Option (Bool×S)}{Z0 Z:Nat->Prop} {φ0 φ:Ph}{s:S}
theorem BL.move (hp:xK P c g lb Inv step)(hW:BL c ob Inv Z0 φ0 w s Z φ W)(we:W.heap.size<=W2.heap.size)(zK: ∀b,b<W.heap.size->ob≠some b->W2.heap[b]? =W.heap[b]?)(Cb:Rest W W2)(hnz: ∀b,ob=some b-> ¬Z b): BL c ob Inv Z0 φ0 w s (λb=>(Z b/\b<W.heap.size)\/W2.heap.size<=b) φ W2:=by
 have hws:=hW.tr.size;refine ⟨hp.mono (hp.frame hW.inv we λb hz hb=>zK b hb (λe=>hnz b e hz)) λb hb=> .inl hb,λb hb=> .inr hb,λb hb=> ?_,λb off v hv=> ?_,?_,hW.free⟩
 ·rcases hb with hb|hb
  ·exact hW.sub b hb.1
  ·exact .inr (by omega)
 ·have h1:=hW.qe b off v hv;have dY:=ab4 W _ h1;have dG:ob≠some b:=by intro e;rw [hW.free b off e] at hv;cases hv
  rw [ac5 (zK b dY dG)];exact h1
 ·refine hW.tr.trans ⟨.refl _,λb hb dY=> ?_,λ_ _ _=>rfl,we,Cb⟩;exact zK b dY (λe=>hb (.inr e))
structure alu (c:Ctx) (sz n cp:Nat) (cells:List Value) (dM:Array Value) (φ:Ph) (i j:Nat) (ys:List MV):Prop where
 size:dM.size=cp *sz
 done:bx c.key φ sz (dM.toList.take (i *sz)) ys
 len:ys.length=i
 rest:(dM.toList.take (n *sz)).drop (j *sz)=cells.drop (j *sz)
def adO (c:Ctx)(ob:Option Nat){S:Type}(Inv:S->(Nat->Prop)->Ph->World->Prop)(step:S->MV->Option (Bool×S))(Z0:Nat->Prop) (φ0:Ph)(w:World)(xs ys:List MV) (s0 s':S)(v:Value)(W:World):Prop:=∃Z φ,(∀b,ob=some b->W.heap[b]? =w.heap[b]?)/\((v= .int .i64 (-1)/\ys=xs/\BL c ob Inv Z0 φ0 w s' Z φ W)\/ ∃k,∃hk:k<xs.length,∃sk,v= .int .i64 (k:Int)/\nk step s0 (xs.take (k+1))=some (xs.take k,sk)/\BL c ob Inv Z0 φ0 w sk Z φ W)
theorem Ql (hf:aam P f t ti tb fu fi el fn r o)(hfi:aaj P fi t ti el fni ri oi)(hp:xK P c g lb Inv step)(hT:lW P c.ti)(hE:c.tv el=some E)(eR:E.st=true)(fm:0<E.size){xs:List MV}{cells:List Value}{dM:Array Value} {s0 s':S}{ys:List MV}(IJ: ∀x∈xs,∃ms,x= .agg ms)(PD:0<xs.length->ad=some ⟨g0,0,none⟩/\ob=some g0/\w.heap[g0]? =some (.cells dM el (0,0))/\dM.toList.take (xs.length *E.size)=cells/\xs.length<=cp/\dM.size=cp *E.size)(X1: ∀b,ob=some b-> ¬Z0 b/\b<w.heap.size/\ ∀off,φ0 b off=none)(kw:bx c.key φ0 E.size cells xs)(alr:xs.length<2^63)(hinv:Inv s0 Z0 φ0 w)(lP: ∀b,w.heap.size<=b->Z0 b)(ki:B6 φ0 w)(hd:nk step s0 xs=some (ys,s')): Calls P f #[.slice ad xs.length cp,.func (.func g) #[] lb] w λe W=> ∃v,e= .returned v/\ ∃Z φ,BL c ob Inv Z0 φ0 w s' Z φ W/\ ((v= .slice ad xs.length cp/\ys=xs/\ ∀b,ob=some b->W.heap[b]? =w.heap[b]?)\/ (0<xs.length/\v= .slice (some ⟨g0,0,none⟩) ys.length cp/\ ∃mZ,W.heap[g0]? =some (.cells mZ el (0,0))/\mZ.size=cp *E.size/\bx c.key φ E.size (mZ.toList.take (ys.length *E.size)) ys)):=by
 obtain ⟨oQ,rU⟩:=b8 hE;obtain ⟨ie,z,oP,vM,hby,hz0,Ss⟩:=sY (hT _ E oQ) rU;obtain ⟨ie2,z2,Z9,YC,hzr⟩:=Cy hE hT;rw [oP] at Z9;cases Z9;rw [hz0] at YC;cases YC;have hz1: ∀v∈z.cells.toList,v.oneCell'=true:=(hzr (qg c.key λ_ _=>none)).cells;have alv:ia P fi #[.slice ad xs.length cp,.func (.func g) #[] lb] w (adO c ob Inv step Z0 φ0 w xs ys s0 s'):=by
  refine zZ hfi.pos hfi.name hfi.body ((aak hfi hp hT hE eR IJ (λh=>⟨(PD h).1,(PD h).2.1,(PD h).2.2.1,(PD h).2.2.2.1⟩) X1 kw alr hinv lP ki hd).mono ?_);rintro e W ⟨Z,φ,h1,h2⟩;rcases h2 with ⟨rfl,h3,h4⟩|⟨k,hk,sk,rfl,h3,h4⟩
  ·exact ⟨_,rfl,Z,φ,h1,.inl ⟨rfl,h3,h4⟩⟩
  ·exact ⟨_,rfl,Z,φ,h1,.inr ⟨k,hk,sk,rfl,h3,h4⟩⟩
 refine calls_of_wp hf.pos hf.body ?_;rw [hf.tmps];generalize Qk:(λ(e:Ending) (W:World)=> ∃v,e= .returned v/\ ∃Z φ,BL c ob Inv Z0 φ0 w s' Z φ W/\ ((v= .slice ad xs.length cp/\ys=xs/\ ∀b,ob=some b->W.heap[b]? =w.heap[b]?)\/ (0<xs.length/\v= .slice (some ⟨g0,0,none⟩) ys.length cp/\ ∃mZ,W.heap[g0]? =some (.cells mZ el (0,0))/\mZ.size=cp *E.size/\bx c.key φ E.size (mZ.toList.take (ys.length *E.size)) ys)))=ah9;have key: ∀a:Act,Tm a 42 (zT (zT (λ_=>undef) 0 (.slice ad xs.length cp)) 1 (.func (.func g) #[] lb))->(I4 r o).wp P (bodyPost P fn ah9) a w:=by
  intro a aM;unfold I4;refine wp_seq (wp_region ?_);rw [show c9 (#[o 0]:Array Oper).size=[0] from rfl];refine aM.step (v:= .slice none 0 0) rfl hf.ops.h0 (by decide) (dC hf.ops.h0 _) (λa aM=> ?_);refine wp_seq (wp_region ?_);rw [show c9 (#[o 1,o 2,o 3,o 4]:Array Oper).size=[0,1,2,3] from rfl];refine aM.step (v:= .slice ad xs.length cp) rfl hf.ops.h1 (by decide) (aX hf.ops.h1 _) (λa aM=> ?_);refine aM.step (v:= .func (.func g) #[] lb) rfl hf.ops.h2 (by decide) (aX hf.ops.h2 _) (λa aM=> ?_);refine aM.call rfl hf.ops.h3 (by decide) (adM hf.ops.h3 rfl rfl rfl _) alv ?_;clear alv;rintro v W1 a1 ⟨Z,φ,Dp,zO⟩ alw;clear aM;refine alw.step (v:=v) rfl hf.ops.h4 (by decide) (dC hf.ops.h4 _) (λa2 Z5=> ?_);clear alw;refine wp_seq (wp_seq (wp_region ?_));rw [show c9 (#[o 5,o 6]:Array Oper).size=[0,1] from rfl];refine Z5.step (v:=v) rfl hf.ops.h5 (by decide) (aX hf.ops.h5 _) (λa3 aic=> ?_);clear Z5;rcases zO with ⟨rfl,rfl,hW⟩|⟨k,hk,sk,rfl,hdk,hW⟩
  ·refine aic.step (v:= .bool (decide ((-1:Int)= -1))) rfl hf.ops.h6 (by decide) (qJ hf.ops.h6 rfl rfl _) (λa aM=> ?_);refine aM.cond (b:=true) (by show acj (decide ((-1:Int)= -1))=_;rfl) ?_;simp only [if_true];refine wp_seq (wp_region ?_);rw [show c9 (#[o 7,o 8]:Array Oper).size=[0,1] from rfl];refine aM.step (v:= .slice ad ys.length cp) rfl hf.ops.h7 (by decide) (aX hf.ops.h7 _) (λa aM=> ?_);refine aM.step (v:= .slice ad ys.length cp) rfl hf.ops.h8 (by decide) (dC hf.ops.h8 _) (λa aM=> ?_);refine wp_ret ?_;refine NL hf.res aM (v:= .slice ad ys.length cp) rfl ?_;rw [<-Qk];exact ⟨_,rfl,Z,φ,hW,.inl ⟨rfl,rfl,Dp⟩⟩
  ·refine aic.step (v:= .bool (decide ((k:Int)= -1))) rfl hf.ops.h6 (by decide) (qJ hf.ops.h6 rfl rfl _) (λa aM=> ?_);refine aM.cond (b:=false) (by show acj (decide ((k:Int)= -1))=_;rw [decide_eq_false (by omega)]) ?_;simp only [By,if_false];refine wp_skip ?_;refine wp_seq (wp_seq (wp_region ?_));rw [show c9 (#[o 9,o 10,o 11]:Array Oper).size=[0,1,2] from rfl];refine aM.step (v:= .int .i64 (k:Int)) rfl hf.ops.h9 (by decide) (aX hf.ops.h9 _) (λa aM=> ?_);refine aM.step (v:= .int .i64 ((k+1:Nat):Int)) rfl hf.ops.UH (by decide) (kU (q:=1) hf.ops.UH rfl rfl (by omega) _) (λa aM=> ?_);refine aM.step (v:= .int .i64 ((k+1:Nat):Int)) rfl hf.ops.SW (by decide) (dC hf.ops.SW _) (λa4 alx=> ?_);clear aic aM;obtain ⟨aia,Wc,dB,bR,aly,apf⟩:=PD (by omega);have O2:=X1 g0 Wc;have alz: ∀b,ob=some b->b=g0:=λb hb=>by rw [Wc] at hb;exact (ahL hb).symm
   have hmul: ∀{a b:Nat},a<=b->a *E.size<=b *E.size:=λh=>ack _ h;refine wp_block (wp_loop (λa W=> ∃σ,Tm a 42 σ/\σ 0= .slice (some ⟨g0,0,none⟩) xs.length cp/\σ 1= .func (.func g) #[] lb/\ ∃i j:Nat,i<j/\j<=xs.length/\σ 5= .int .i64 (i:Int)/\σ 6= .int .i64 (j:Int)/\ ∃mZ sj Z φ yj,W.heap[g0]? =some (.cells mZ el (0,0))/\nk step s0 (xs.take j)=some (yj,sj)/\BL c ob Inv Z0 φ0 w sj Z φ W/\alu c E.size xs.length cp cells mZ φ i j yj) (λa W=>match a.tmps.getD 6 undef with| .int _ k=>xs.length-k.toNat|_=>0) ?_ ?_)
   ·refine ⟨_,alx,by show Value.slice ad xs.length cp=_;rw [aia],rfl,k,k+1,by omega,by omega,rfl,rfl,dM,sk,Z,φ,xs.take k,(Dp g0 Wc).trans dB,hdk,hW,⟨apf,?_,by rw [AI];omega,by rw [bR]⟩⟩;have h1:=(kw.mono hW.tr.ph).take k;rw [<-bR,aeo] at h1;have h2:Nat.min (k *E.size) (xs.length *E.size)=k *E.size:=acO (hmul (by omega));rw [show min (k *E.size) (xs.length *E.size)=k *E.size from h2] at h1;exact h1
   ·clear Dp hdk hW alx dB;rintro a W ⟨σ,aM,h0,h1,i,j,RR,hjn,h5,h6,mZ,sj,Z',φ',yj,Dp,hdj,hW,hR⟩;have hm6:(match a.tmps.getD 6 undef with| .int _ k=>xs.length-k.toNat|_=>0)=xs.length-j:=by rw [aM.get 6,h6];simp
    rw [hm6];clear hm6;have hnz: ∀b,ob=some b-> ¬Z' b:=λb hb hz=>by
     have:=alz b hb;subst this;rcases hW.sub _ hz with h|h
     ·exact O2.1 h
     ·have:=O2.2.1;omega
    refine wp_seq (wp_seq (wp_region ?_));rw [show c9 (#[o 12,o 13,o 14,o 15]:Array Oper).size=[0,1,2,3] from rfl];refine aM.step (v:= .int .i64 (j:Int)) rfl hf.ops.SX (by decide) ((aX hf.ops.SX _).trans (by show acn (acd (σ 6)) W=_;rw [h6])) (λa aM=> ?_);refine aM.step (v:= .slice (some ⟨g0,0,none⟩) xs.length cp) rfl hf.ops.SY (by decide) ((aX hf.ops.SY _).trans (by show acn (acd (σ 0)) W=_;rw [h0])) (λa aM=> ?_);refine aM.step (v:= .int .i64 ((xs.length:Nat):Int)) rfl hf.ops.SZ (by decide) (nJ hf.ops.SZ hf.xp rfl _) (λa aM=> ?_);refine aM.step (v:= .bool (decide ((j:Int)<(xs.length:Int)))) rfl hf.ops.O5 (by decide) (Qi hf.ops.O5 rfl rfl _) (λa aM=> ?_);by_cases dY:j<xs.length;rotate_left
    ·
     refine aM.cond (b:=false) (by show acj (decide ((j:Int)<(xs.length:Int)))=_;rw [decide_eq_false (by omega)]) ?_;simp only [By,if_false];refine wp_exit ?_;have apg:j=xs.length:=by omega
     subst apg;rw [agS,hd] at hdj;simp only [IN,acs] at hdj;obtain ⟨rfl,rfl⟩:=hdj;have hlen:=hR.len;have we:=hR.size;have zg:i *E.size+(xs.length-i) *E.size<=mZ.size:=by rw [<-ac9,we];exact hmul (by omega)
     have vG:i *E.size<=xs.length *E.size:=hmul (by omega);have PE:xs.length *E.size<=cp *E.size:=hmul aly;obtain ⟨zs,hzl,alA⟩:=zW (P:=P) (w:=W) (t:=t) (ty:=(o 40).type) (g:=g0) (off:=i *E.size) (n:=xs.length-i) (c:=cp-i) hf.xp oP hz0 Ss hz1 Dp (by omega) zg;have hgl:g0<W.heap.size:=aei O2.2.1 hW.tr.size;obtain ⟨W3,hW3⟩: ∃W3,W3=W.setRow g0 (mZ.toList.take (i *E.size)++zs++mZ.toList.drop (i *E.size+zs.length)).toArray:=⟨_,rfl⟩
     rw [<-hW3] at alA;have Cc:=hW.move hp (W2:=W3) (by rw [hW3];simp [adi]) (λb _ dG=>by rw [hW3];exact setRow_other _ _ _ _ (λe=>dG (by rw [Wc,e]))) (by rw [hW3];exact .setRow _ _ _) hnz;show Code.wp P (Code.seq _ _) _ a W;refine wp_seq (wp_region ?_);rw [show c9 (#[o 37,o 38,o 39,o 40]:Array Oper).size=[0,1,2,3] from rfl];refine aM.step (v:= .slice (some ⟨g0,0,none⟩) xs.length cp) rfl hf.ops.h37 (by decide) ((aX hf.ops.h37 _).trans (by show acn (acd (σ 0)) W=_;rw [h0])) (λa aM=> ?_);refine aM.step (v:= .int .i64 (i:Int)) rfl hf.ops.h38 (by decide) ((aX hf.ops.h38 _).trans (by show acn (acd (σ 5)) W=_;rw [h5])) (λa aM=> ?_);refine aM.step rfl hf.ops.h39 (by decide) (oq hf.ops.h39 hf.xp oP vM rfl rfl (by omega) (by omega) _) (λa aM=> ?_);refine aM.aga (v:= .tuple #[]) rfl hf.ops.h40 (UX hf.ops.h40 rfl alA) ?_;refine wp_seq (wp_region ?_);rw [show c9 (#[o 41,o 42,o 43,o 44]:Array Oper).size=[0,1,2,3] from rfl];refine aM.step (v:= .slice (some ⟨g0,0,none⟩) xs.length cp) rfl hf.ops.h41 (by decide) ((aX hf.ops.h41 _).trans (by show acn (acd (σ 0)) W3=_;rw [h0])) (λa aM=> ?_);refine aM.step (v:= .int .i64 (i:Int)) rfl hf.ops.h42 (by decide) ((aX hf.ops.h42 _).trans (by show acn (acd (σ 5)) W3=_;rw [h5])) (λa aM=> ?_);refine aM.step (v:= .slice (some ⟨g0,0,none⟩) i cp) rfl hf.ops.h43 (by decide) (Ds hf.ops.h43 hf.xp oP vM rfl rfl (by omega) _) (λa aM=> ?_);refine aM.step (v:= .slice (some ⟨g0,0,none⟩) i cp) rfl hf.ops.h44 (by decide) (dC hf.ops.h44 _) (λa aM=> ?_);refine wp_ret ?_;refine NL hf.res aM (v:= .slice (some ⟨g0,0,none⟩) i cp) rfl ?_;rw [<-Qk];have sf:mZ.toList.length=cp *E.size:=by rw [aar,we]
     refine ⟨_,rfl,_,φ',Cc,.inr ⟨by omega,by rw [hlen],_,by rw [hW3];exact wB _ Dp,?_,?_⟩⟩
     ·simp only [acg,AS,AI,aaK,sf,hzl];have:(xs.length-i) *E.size+i *E.size=xs.length *E.size:=by rw [<-ac9];congr 1;omega
      omega
     ·rw [hlen,ade,aaF (by rw [AI,sf];omega),aeo,Nat.min_self];exact hR.done
    ·refine aM.cond (b:=true) (by show acj (decide ((j:Int)<(xs.length:Int)))=_;rw [decide_eq_true (by omega)]) ?_;simp only [if_true];refine wp_skip ?_;obtain ⟨yk,sk',b,sk2,e1,e2,e3⟩:=UN hd dY;rw [hdj] at e1;simp only [IN,acs] at e1;obtain ⟨rfl,rfl⟩:=e1;have aal:=kw.mono hW.tr.ph;obtain ⟨hl,gl⟩:=Qj aal dY;obtain ⟨Mh,Nc⟩: ∃Mh,Mh=(cells.drop (j *E.size)).take E.size:=⟨_,rfl⟩
     rw [<-Nc] at hl gl;have sf:mZ.toList.length=cp *E.size:=by rw [aar,hR.size]
     have hj1:j *E.size+E.size<=xs.length *E.size:=by rw [<-aeT];exact hmul dY
     have PE:xs.length *E.size<=cp *E.size:=hmul aly;have uX:i *E.size+E.size<=j *E.size:=by rw [<-aeT];exact hmul RR
     have aib:W.rangeAt g0 (j *E.size) Mh:=by
      intro q v hq;have hql:q<E.size:=by have:=(acI.1 hq).1;omega
      rw [cell_of Dp,<-adP];rw [Nc,aed hql,<-hR.rest,acr,aed (by omega)] at hq;exact hq
     have jP: ∀u∈Mh,u.oneCell'=true:=λu hu=>kw.Cs u (by rw [Nc] at hu;exact afB (List.mem_of_mem_take hu));obtain ⟨ms,Wf⟩:=IJ _ (adW dY);have SR:gf c.key φ' (.agg Mh.toArray) xs[j]:=I3 gl Wf;have hsc:(Value.agg Mh.toArray).cells.toList=Mh:=by simp [ag8]
     refine wp_seq (wp_block ?_);refine wp_seq (wp_region ?_);rw [show c9 (#[o 16,o 17,o 18,o 19,o 20,o 21]:Array Oper).size=[0,1,2,3,4,5] from rfl];refine aM.step (v:= .slice (some ⟨g0,0,none⟩) xs.length cp) rfl hf.ops.S0 (by decide) ((aX hf.ops.S0 _).trans (by show acn (acd (σ 0)) W=_;rw [h0])) (λa aM=> ?_);refine aM.step (v:= .int .i64 (j:Int)) rfl hf.ops.ZX (by decide) ((aX hf.ops.ZX _).trans (by show acn (acd (σ 6)) W=_;rw [h6])) (λa aM=> ?_);refine aM.step rfl hf.ops.h18 (by decide) (NJ hf.ops.h18 hf.xp oP vM rfl rfl dY _) (λa aM=> ?_);refine aM.step rfl hf.ops.h19 (by decide) (Hq hf.ops.h19 (hT _ E oQ) rU eR hl rfl aib) (λa aM=> ?_);refine aM.step rfl hf.ops.h20 (by decide) (adL hf.ops.h20 oP hz0 _) (λa aM=> ?_);have agf:(W.alloc (.cells z.cells el)).heap[W.heap.size]? =some (.cells z.cells el (0,0)):=nF W _;refine aM.agc rfl hf.ops.h21 (U2 (v:= .agg Mh.toArray) (off:=0) hf.ops.h21 (hT _ E oQ) rU rfl rfl (by rw [hsc,hl]) (by rw [hsc];exact jP) agf (by rw [Ss];omega)) ?_;rw [hsc];obtain ⟨W2,WC⟩: ∃W2,W2=(W.alloc (.cells z.cells el)).setRow W.heap.size (z.cells.toList.take 0++Mh++z.cells.toList.drop (0+E.size)).toArray:=⟨_,rfl⟩
     rw [<-WC];have Nd:W2.heap.size=W.heap.size+1:=by rw [WC,setRow_size];simp
     have hold: ∀b,b<W.heap.size->W2.heap[b]? =W.heap[b]? :=λb hb=>by rw [WC,setRow_other _ _ _ _ (by omega)];exact (eI.alloc W z.cells el).A0 b hb
     have agh:W2.heap[W.heap.size]? =some (.cells Mh.toArray el (0,0)):=by
      rw [WC,wB _ agf];congr 3;have:z.cells.toList.drop (0+E.size)=[]:=by rw [aen,agV];rw [aar,Ss];exact OF _
      rw [this];simp
     have S1:Rest W W2:=by rw [WC];exact (Rest.alloc W z.cells el).trans (.setRow _ _ _)
     have hgl:g0<W.heap.size:=aei O2.2.1 hW.tr.size;have Cc:=hW.move hp (W2:=W2) (by omega) (λb hb _=>hold b hb) S1 hnz;have aid: ∀b,ob=some b-> ¬((Z' b/\b<W.heap.size)\/W2.heap.size<=b):=by
      intro b hb;have:=alz b hb;subst this;rintro (h|h)
      ·exact hnz b hb h.1
      ·omega
     have agi: ∀{W:World} {b:Nat},W.heap[b]? =some (.cells Mh.toArray el (0,0))->W.rangeAt b 0 Mh:=by intro W b hb q v hq;rw [cell_of hb,aen];simpa using hq
     refine wp_seq (wp_region ?_);rw [show c9 (#[o 22,o 23,o 24,o 25]:Array Oper).size=[0,1,2,3] from rfl];refine aM.step (v:= .func (.func g) #[] lb) rfl hf.ops.h22 (by decide) ((aX hf.ops.h22 _).trans (by show acn (acd (σ 1)) W2=_;rw [h1])) (λa aM=> ?_);refine aM.step rfl hf.ops.h23 (by decide) (Hq hf.ops.h23 (hT _ E oQ) rU eR hl rfl (agi agh)) (λa aM=> ?_);refine aM.call rfl hf.ops.h24 (by decide) (U3 hf.ops.h24 rfl rfl _) (hp.call Cc.inv Cc.new Cc.qe SR e2) ?_;rintro v W3 a ⟨rfl,φ3,t1,t2,t3⟩ aM;have aan:W3.heap[g0]? =some (.cells mZ el (0,0)):=(t1.heap g0 (aid g0 Wc) (by omega)).trans ((hold g0 hgl).trans Dp);have alB:W3.heap[W.heap.size]? =some (.cells Mh.toArray el (0,0)):=(t1.heap _ (by rintro (h|h)<;>omega) (by omega)).trans agh;have hW3:BL c ob Inv Z0 φ0 w sk2 (λb=>(Z' b/\b<W.heap.size)\/W2.heap.size<=b) φ3 W3:=⟨t3,λb hb=>Cc.new b (acT t1.size hb),Cc.sub,t2,Cc.tr.trans (t1.sup λb hb=> .inl (Cc.sub b hb)),λb off hb=>by rw [t1.free b off (aid b hb)];exact Cc.free b off hb⟩
     refine aM.step (v:= .bool (!b)) rfl hf.ops.h25 (by decide) (US hf.ops.h25 rfl _) (λa aM=> ?_);cases b with
     |true=>
      refine aM.cond (b:=false) rfl ?_;simp only [By,if_false];refine wp_skip ?_;show Code.wp P (agk (r 10) #[o 34,o 35,o 36] false) _ a W3;refine wp_region ?_;rw [show c9 (#[o 34,o 35,o 36]:Array Oper).size=[0,1,2] from rfl];refine aM.step (v:= .int .i64 (j:Int)) rfl hf.ops.h34 (by decide) ((aX hf.ops.h34 _).trans (by show acn (acd (σ 6)) W3=_;rw [h6])) (λa aM=> ?_);refine aM.step (v:= .int .i64 ((j+1:Nat):Int)) rfl hf.ops.h35 (by decide) (kU (q:=1) hf.ops.h35 rfl rfl (by omega) _) (λa aM=> ?_);refine aM.step (v:= .int .i64 ((j+1:Nat):Int)) rfl hf.ops.h36 (by decide) (dC hf.ops.h36 _) (λa aM=> ?_);refine ⟨⟨_,aM,h0,h1,i,j+1,by omega,by omega,h5,rfl,mZ,sk2,_,φ3,yj,aan,by rw [e3];rfl,hW3,⟨hR.size,hR.done.mono t1.ph,hR.len,?_⟩⟩,?_⟩
      ·rw [show (j+1) *E.size=j *E.size+E.size from aeT _ _,<-agd,<-agd,hR.rest]
      ·have:a.tmps.getD 6 undef= .int .i64 ((j+1:Nat):Int):=by rw [aM.get 6];rfl
       rw [this];simp;omega
     |false=>
      refine aM.cond (b:=true) rfl ?_;simp only [if_true];refine wp_seq (wp_region ?_);rw [show c9 (#[o 26,o 27,o 28,o 29,o 30]:Array Oper).size=[0,1,2,3,4] from rfl];refine aM.step (v:= .slice (some ⟨g0,0,none⟩) xs.length cp) rfl hf.ops.h26 (by decide) ((aX hf.ops.h26 _).trans (by show acn (acd (σ 0)) W3=_;rw [h0])) (λa aM=> ?_);refine aM.step (v:= .int .i64 (i:Int)) rfl hf.ops.h27 (by decide) ((aX hf.ops.h27 _).trans (by show acn (acd (σ 5)) W3=_;rw [h5])) (λa aM=> ?_);refine aM.step rfl hf.ops.h28 (by decide) (Hq hf.ops.h28 (hT _ E oQ) rU eR hl rfl (agi alB)) (λa aM=> ?_);refine aM.step rfl hf.ops.h29 (by decide) (NJ hf.ops.h29 hf.xp oP vM rfl rfl (by omega) _) (λa aM=> ?_);refine aM.agc rfl hf.ops.ZY (U2 (v:= .agg Mh.toArray) (off:=i *E.size) hf.ops.ZY (hT _ E oQ) rU rfl rfl (by rw [hsc,hl]) (by rw [hsc];exact jP) aan (by rw [hR.size];omega)) ?_;rw [hsc];obtain ⟨W4,hW4⟩: ∃W4,W4=W3.setRow g0 (mZ.toList.take (i *E.size)++Mh++mZ.toList.drop (i *E.size+E.size)).toArray:=⟨_,rfl⟩
      rw [<-hW4];have aie:=hW3.move hp (W2:=W4) (by rw [hW4,setRow_size];exact OF _) (λb _ dG=>by rw [hW4];exact setRow_other _ _ _ _ (λe=>dG (by rw [Wc,e]))) (by rw [hW4];exact .setRow _ _ _) aid;refine wp_region ?_;rw [show c9 (#[o 31,o 32,o 33]:Array Oper).size=[0,1,2] from rfl];refine aM.step (v:= .int .i64 (i:Int)) rfl hf.ops.h31 (by decide) ((aX hf.ops.h31 _).trans (by show acn (acd (σ 5)) W4=_;rw [h5])) (λa aM=> ?_);refine aM.step (v:= .int .i64 ((i+1:Nat):Int)) rfl hf.ops.h32 (by decide) (kU (q:=1) hf.ops.h32 rfl rfl (by omega) _) (λa aM=> ?_);refine aM.step (v:= .int .i64 ((i+1:Nat):Int)) rfl hf.ops.h33 (by decide) (dC hf.ops.h33 _) (λa aM=> ?_);show Code.wp P (agk (r 10) #[o 34,o 35,o 36] false) _ a W4;refine wp_region ?_;rw [show c9 (#[o 34,o 35,o 36]:Array Oper).size=[0,1,2] from rfl];refine aM.step (v:= .int .i64 (j:Int)) rfl hf.ops.h34 (by decide) ((aX hf.ops.h34 _).trans (by show acn (acd (σ 6)) W4=_;rw [h6])) (λa aM=> ?_);refine aM.step (v:= .int .i64 ((j+1:Nat):Int)) rfl hf.ops.h35 (by decide) (kU (q:=1) hf.ops.h35 rfl rfl (by omega) _) (λa aM=> ?_);refine aM.step (v:= .int .i64 ((j+1:Nat):Int)) rfl hf.ops.h36 (by decide) (dC hf.ops.h36 _) (λa aM=> ?_);refine ⟨⟨_,aM,h0,h1,i+1,j+1,by omega,by omega,rfl,rfl,_,sk2,_,φ3,yj++[xs[j]],by rw [hW4];exact wB _ aan,by rw [e3];rfl,aie,⟨?_,?_,by rw [AS,hR.len];rfl,?_⟩⟩,?_⟩
      ·simp only [acg,AS,AI,aaK,sf,hl];omega
      ·rw [show (i+1) *E.size=i *E.size+E.size from aeT _ _];have h9:(mZ.toList.take (i *E.size)++Mh).length=i *E.size+E.size:=by rw [AS,AI,sf,hl];omega
       show bx c.key φ3 E.size (List.take (i *E.size+E.size) (mZ.toList.take (i *E.size)++Mh++mZ.toList.drop (i *E.size+E.size))) _;rw [<-h9,ahk];exact (hR.done.mono t1.ph).append ⟨Mh,[],by simp,hl,gl.mono t1.ph,rfl⟩
      ·show (List.take (xs.length *E.size) (mZ.toList.take (i *E.size)++Mh++mZ.toList.drop (i *E.size+E.size))).drop ((j+1) *E.size)=_;have h8:cells.drop ((j+1) *E.size)=(mZ.toList.take (xs.length *E.size)).drop ((j+1) *E.size):=by rw [show (j+1) *E.size=j *E.size+E.size from aeT _ _,<-agd,<-agd,hR.rest]
       rw [h8];apply ael;intro q;have UH:(j+1) *E.size=j *E.size+E.size:=aeT _ _;rw [acr,acr,aej,aej];split
       ·have h9:(mZ.toList.take (i *E.size)++Mh).length=i *E.size+E.size:=by rw [AS,AI,sf,hl];omega
        rw [ab9 (by rw [h9];omega),h9,acr];congr 1;omega
       ·rfl
      ·have:a.tmps.getD 6 undef= .int .i64 ((j+1:Nat):Int):=by rw [aM.get 6];rfl
       rw [this];simp;omega
 exact key _ (tm2 _ _ 40)
theorem adQ (hf:aam P f t ti tb fu fi el fn r o)(hfi:aaj P fi t ti el fni ri oi)(hT:lW P c.ti)(hE:c.tv el=some E)(eR:E.st=true)(fm:0<E.size):Nw P c f el:=by
 refine ⟨?_⟩;intro S Inv step g lb hp v0 xs ys w Z0 φ0 s0 s' IJ iM GQ hinv lP ki hd;obtain ⟨oQ,rU⟩:=b8 hE;obtain ⟨I,cells,hI,YI,eS,kw,mD⟩:=iM.row;have hI:c.ti el=some I:=hI;rw [oQ] at hI;cases hI;have eS:w.ownsRow 0 el E.size v0 xs.length cells:=eS;have kw:bx c.key φ0 E.size cells xs:=kw;have si: ∀b,v0.ownBlock=some b-> ∀off,φ0 b off=none:=by
  intro b hb off;cases h:φ0 b off with
  |none=>rfl
  |some u=>have:=((mD b hb).2.1 off u h).1;cases this
 rcases eS.2 with ⟨rfl,h0⟩|⟨gb,cap,dM,rfl,_,dB,PE,Hj,xn,RS⟩
 ·have hx:xs=[]:=List.eq_nil_of_length_eq_zero h0;subst hx;refine zZ hf.pos hf.name hf.body ((Ql (ob:=none) (g0:=0) (dM:= #[]) hf hfi hp hT hE eR fm (cp:=0) IJ (λh=>absurd h (by simp)) (λb hb=>by cases hb) kw (by simp) hinv lP ki hd).mono ?_);rintro e W ⟨v,rfl,Z,φ,hW,h1⟩;rcases h1 with ⟨rfl,rfl,_⟩|⟨h1,_⟩
  ·exact ⟨_,rfl,Z,φ,hW,⟨E,[],oQ,rU,⟨by simp,.inl ⟨rfl,rfl⟩⟩,rfl,λbG hb=>by simp [adm] at hb⟩,λ_ h=>h⟩
  ·simp at h1
 ·have dY:=bW dB;have api:xs.length<2^63:=by unfold Go.maxLen at Hj;omega
  refine zZ hf.pos hf.name hf.body ((Ql (ob:=some gb) (g0:=gb) hf hfi hp hT hE eR fm (cp:=cap) IJ (λh=>⟨rfl,rfl,dB,RS,PE,xn⟩) (λb hb=>by cases hb;exact ⟨GQ gb rfl,dY,si gb rfl⟩) kw api hinv lP ki hd).mono ?_);rintro e W ⟨v,rfl,Z,φ,hW,h1⟩;rcases h1 with ⟨rfl,rfl,h2⟩|⟨h0,rfl,mZ,h2,h3,h4⟩
  ·refine ⟨_,rfl,Z,φ,hW,⟨E,cells,oQ,rU,⟨eS.1,.inr ⟨gb,cap,dM,rfl,aco _,(h2 gb rfl).trans dB,PE,Hj,xn,RS⟩⟩,kw.mono hW.tr.ph,λbG hb=>⟨hb,λoff u hu=> ?_,λhc=>hc.elim⟩⟩,λ_ h=>h⟩;have hu:φ bG off=some u:=hu;rw [hW.free bG off hb] at hu;cases hu
  ·have hle:ys.length<=cap:=acT (ZS hd) PE;refine ⟨_,rfl,Z,φ,hW,⟨E,mZ.toList.take (ys.length *E.size),oQ,rU,⟨?_,.inr ⟨gb,cap,mZ,rfl,aco _,?_,hle,Hj,h3,rfl⟩⟩,h4,λbG hb=>⟨hb,λoff u hu=> ?_,λhc=>hc.elim⟩⟩,λ_ h=>h⟩
   ·exact h4.length
   ·have:mZ=mZ:=rfl;exact h2
   ·have hu:φ bG off=some u:=hu;rw [hW.free bG off hb] at hu;cases hu
end
end Dn
/-
  Reasoning about functions on typed values. Conditions: none.
-/
namespace Dn
open Go
section
variable {α R:Type}
theorem ba {l:List α}{k:Nat}(h:k<l.length)(K:α->Option R):ix l (k:Int) K=K l[k]:=by simp [ix,h]
theorem yJ {l:List α}{i:Int}(h0:0<=i)(h:i.toNat<l.length)(K:α->Option R):ix l i K=K l[i.toNat]:=by simp [ix,h,h0]
@[simp] theorem Gz {A : Type}(x : Option A) : bd x (λa => some a) = x := by cases x <;> rfl
end
def aO {A:Type}(x:Option A)(Q:A->Prop):Prop:= ∃a,x=some a/\Q a
section
variable {A B α σ ρ:Type}
theorem aO.mk {a:A}{Q:A->Prop}(h:Q a):aO (some a) Q:=⟨a,rfl,h⟩
theorem aO.of {x:Option A}{a:A}{Q:A->Prop}(e:x=some a)(h:Q a):aO x Q:=⟨a,e,h⟩
theorem aO.bd {x:Option A}{K:A->Option B}{P:A->Prop}{Q:B->Prop}(h:aO x P)(hk: ∀a,P a->aO (K a) Q):aO (bd x K) Q:=by obtain ⟨a,rfl,hp⟩:=h;exact hk a hp
theorem aO.imp {x:Option A}{P Q:A->Prop}(h:aO x P)(SE: ∀a,P a->Q a):aO x Q:=by obtain ⟨a,e,hp⟩:=h;exact ⟨a,e,SE a hp⟩
theorem aO.ix {l:List α}{k:Nat}{K:α->Option A}{Q:A->Prop}(h:k<l.length)(hk:aO (K l[k]) Q):aO (ix l (k:Int) K) Q:=by rw [ba h];exact hk
theorem aO.eq {x:Option A}{a:A}(h:aO x (· =a)):x=some a:=by obtain ⟨b,e,rfl⟩:=h;exact e
variable {body:σ->Option (Sum σ ρ)}
theorem aO.loop (I:σ->Prop) (μ:σ->Nat){Q:ρ->Prop}{s:σ}(hs:I s)(h: ∀s,I s->aO (body s) λx=>match x with| .inl s'=>I s'/\μ s'<μ s| .inr r=>Q r):aO (Loop body s) Q:=by
 refine aab I μ Q (λs hs=> ?_) hs;obtain ⟨x,e,hx⟩:=h s hs;cases x with
 |inl s'=>exact .inl ⟨s',e,hx⟩
 |inr r=>exact .inr ⟨r,e,hx⟩
theorem aO.count (S:Nat->σ)(n:Nat){Q:ρ->Prop}(P:Nat->Prop){s:σ}(e:s=S 0)(h0:P 0)(h: ∀k,k<n->P k->aO (body (S k)) λx=>match x with| .inl s'=>s'=S (k+1)/\P (k+1)| .inr r=>Q r)(he:P n->aO (body (S n)) λx=>match x with| .inl _=>False| .inr r=>Q r):aO (Loop body s) Q:=by
 subst e;refine aac S n Q P h0 (λk hk hp=> ?_) (λhp=> ?_)
 ·obtain ⟨x,e,hx⟩:=h k hk hp;cases x with
  |inl s'=>obtain ⟨rfl,hx⟩:=hx;exact .inl ⟨e,hx⟩
  |inr r=>exact .inr ⟨r,e,hx⟩
 ·obtain ⟨x,e,hx⟩:=he hp;cases x with
  |inl s'=>exact hx.elim
  |inr r=>exact ⟨r,e,hx⟩
end
theorem wrap64 {x:Int}(h1: -9223372036854775808<=x)(h2:x<=9223372036854775807):aas .i64 x=x:=adD h1 h2
end Dn
/-
  Functions of the library, on typed values. Conditions: none.
-/
namespace Dn
open Go
def Oy (x y:Int):Int:=if x<y then-1 else if y<x then 1 else 0
def nj {α:Type}(key:α->Int)(L:List α)(s:Int):Nat:=L.countP (λe=>decide (key e<s))
def fP {α:Type}(key:α->Int)(L:List α)(s:Int):Bool:=L.any λe=>decide (key e=s)
def rL {α:Type}(key:α->Int)(L:List α):Prop:=L.Pairwise λa b=>key a<key b
section
variable {α τ:Type}{key:α->Int}
theorem aiM {L:List α}{s:Int}{p:Nat}(hp:p<=L.length)(h1: ∀k (hk:k<L.length),k<p->key L[k]<s)(h2: ∀k (hk:k<L.length),p<=k->s<=key L[k]):nj key L s=p:=by
 have h3:(L.take p).countP (λe=>decide (key e<s))=(L.take p).length:=by
  rw [List.countP_eq_length];intro a ha;obtain ⟨k,hk,rfl⟩:=afE.1 ha;have EN:k<p:=by rw [AI] at hk;omega
  rw [List.getElem_take];exact decide_eq_true (h1 k (by omega) EN)
 have h4:(L.drop p).countP (λe=>decide (key e<s))=0:=by rw [List.countP_eq_zero];intro a ha;obtain ⟨k,hk,rfl⟩:=afE.1 ha;rw [aaK] at hk;rw [List.getElem_drop];have:=h2 (p+k) (by omega) (by omega);simp;omega
 have h5:nj key L s=(L.take p++L.drop p).countP (λe=>decide (key e<s)):=by rw [ag2];rfl
 rw [h5,List.countP_append,h3,h4,AI];omega
theorem rL.lt {L:List α}(hs:rL key L){i j:Nat}(hj:j<L.length)(h:i<j):key (L[i]'(by omega))<key L[j]:=List.pairwise_iff_getElem.1 hs i j (by omega) hj h
theorem rL.le {L:List α}(hs:rL key L){i j:Nat}(hj:j<L.length)(h:i<=j):key (L[i]'(by omega))<=key L[j]:=by
 rcases Nat.lt_or_eq_of_le h with h|h
 ·exact Int.le_of_lt (hs.lt hj h)
 ·subst h;exact Int.le_refl _
theorem Kb (L:List α)(s:Int):nj key L s<=L.length:=List.countP_le_length
theorem rL.lb {L:List α}(hs:rL key L)(s:Int):(∀k (hk:k<L.length),k<nj key L s->key L[k]<s)/\(∀k (hk:k<L.length),nj key L s<=k->s<=key L[k]):=by
 have: ∃p,p<=L.length/\(∀k (hk:k<L.length),k<p->key L[k]<s)/\(∀k (hk:k<L.length),p<=k->s<=key L[k]):=by
  induction L with
  |nil=>exact ⟨0,OF _,λk hk=>by simp at hk,λk hk=>by simp at hk⟩
  |cons a l ih=>
   have A4:=List.pairwise_cons.1 hs;by_cases ha:key a<s
   ·obtain ⟨p,h1,h2,h3⟩:=ih A4.2;refine ⟨p+1,by simp;omega,λk hk O9=> ?_,λk hk O9=> ?_⟩
    ·cases k with
     |zero=>exact ha
     |succ k=>exact h2 k (by simpa using hk) (by omega)
    ·cases k with
     |zero=>omega
     |succ k=>exact h3 k (by simpa using hk) (by omega)
   ·refine ⟨0,aco _,λk hk O9=>by omega,λk hk _=> ?_⟩;cases k with
    |zero=>simp;omega
    |succ k=>have:=A4.1 (l[k]'(by simpa using hk)) (adW _);simp only [List.getElem_cons_succ];omega
 obtain ⟨p,h1,h2,h3⟩:=this;rw [aiM h1 h2 h3];exact ⟨h2,h3⟩
theorem rL.has {L:List α}(hs:rL key L)(s:Int):fP key L s=true↔ ∃h:nj key L s<L.length,key L[nj key L s]=s:=by
 obtain ⟨h1,h2⟩:=hs.lb s;unfold fP;rw [afs];constructor
 ·rintro ⟨x,hx,he⟩;obtain ⟨k,hk,rfl⟩:=afE.1 hx;have he:key L[k]=s:=by simpa using he
  have hge:nj key L s<=k:=by refine Nat.le_of_not_lt λdY=> ?_;have:=h1 k hk dY;omega
  have hl:nj key L s<L.length:=by omega
  refine ⟨hl,?_⟩;have:=h2 _ hl (OF _);have:=hs.le hk hge;omega
 ·rintro ⟨h,he⟩;exact ⟨_,adW h,decide_eq_true he⟩
theorem pH {L:List α}{s:Int}:fP key L s=true↔ ∃x∈L,key x=s:=by simp [fP]
noncomputable def bsL (x:List α)(target:τ)(cmp:α->τ->Option Int)(st:Int×Int):Option ((Int×Int)⊕Int):=if st.1<st.2 then
 if (0:Int)<=1 then
 ix x (aas .i64 (ah5 (aas .u64 (aas .i64 (st.1+st.2))) (2^min (aho 1) (aeq .u64)))) λy=>
 bd (cmp y target) λrA=>
 bd (if rA<0 then
  some (aas .i64 ((aas .i64 (ah5 (aas .u64 (aas .i64 (st.1+st.2))) (2^min (aho 1) (aeq .u64))))+1),st.2)
  else
  some (st.1,aas .i64 (ah5 (aas .u64 (aas .i64 (st.1+st.2))) (2^min (aho 1) (aeq .u64)))):Option (Int×Int)) λw1=>
 some (.inl (w1.1,w1.2))
 else none
 else
 some (.inr st.1)
noncomputable def bsearch (x:List α)(target:τ)(cmp:α->τ->Option Int):Option (Int×Bool):=bd (Loop (bsL x target cmp) (0,(x.length:Int))) λw=>
 bd (if w<(x.length:Int) then
  ix x w λy1=>
  bd (cmp y1 target) λaT=>
  some (w,decide (aT=0))
  else
  some (w,false):Option (Int×Bool)) λw2=>
 some (w2.1,w2.2)
theorem Kc {L:List α}{s:Int}{cmp:α->Int->Option Int}(hs:rL key L)(hl:L.length<2^60)(hc: ∀a,cmp a s=some (Oy (key a) s)):bsearch L s cmp=some ((nj key L s:Int),fP key L s):=by
 obtain ⟨vZ,vF⟩:=hs.lb s;have hle:=Kb (key:=key) L s;have cw:Loop (bsL L s cmp) (0,(L.length:Int))=some (nj key L s:Int):=by
  refine aO.eq (aO.loop (λst=> ∃i j:Nat,st=((i:Int),(j:Int))/\i<=nj key L s/\nj key L s<=j/\j<=L.length) (λst=>(st.2-st.1).toNat) ⟨0,L.length,rfl,aco _,hle,OF _⟩ ?_);rintro st ⟨i,j,rfl,hi,hj,KC⟩;unfold bsL;by_cases dY:i<j
  ·have hm:(i+j)/2<L.length:=by omega
   simp only [show ((i:Int)<(j:Int)) by omega,if_true,show ((0:Int)<=1) by decide,aaa (by omega:i+j<2^62),ba hm,hc,av];by_cases hlb:(i+j)/2<nj key L s
   ·have hk:=vZ _ hm hlb;have:Oy (key L[(i+j)/2]) s= -1:=by simp [Oy,hk]
    simp only [this,show ((-1:Int)<0) by decide,if_true,av];rw [wrap64 (by omega) (by omega)];exact .mk ⟨⟨(i+j)/2+1,j,by simp,by omega,hj,KC⟩,by omega⟩
   ·have hk:=vF _ hm (by omega);have: ¬Oy (key L[(i+j)/2]) s<0:=by unfold Oy;rw [if_neg (by omega)];split<;>omega
    simp only [this,if_false,av];exact .mk ⟨⟨i,(i+j)/2,rfl,hi,by omega,by omega⟩,by omega⟩
  ·simp only [show¬((i:Int)<(j:Int)) by omega,if_false];exact .mk (by show (i:Int)=(nj key L s:Int);omega)
 unfold bsearch;rw [cw];simp only [av];by_cases dY:nj key L s<L.length
 ·simp only [show ((nj key L s:Int)<(L.length:Int)) by omega,if_true,ba dY,hc,av];have h3:=vF _ dY (OF _);have:decide (Oy (key L[nj key L s]) s=0)=fP key L s:=by
   unfold Oy;rw [if_neg (by omega)];by_cases he:key L[nj key L s]=s
   ·rw [if_neg (by omega),decide_eq_true rfl,(hs.has s).2 ⟨dY,he⟩]
   ·rw [if_pos (by omega),decide_eq_false (by decide)];symm;rw [aer];intro hh;obtain ⟨_,hh⟩:=(hs.has s).1 hh;exact he hh
  rw [this]
 ·simp only [show¬((nj key L s:Int)<(L.length:Int)) by omega,if_false,av];have:fP key L s=false:=by rw [aer];intro hh;obtain ⟨hh,_⟩:=(hs.has s).1 hh;exact dY hh
  rw [this]
def Ez (key:α->Int)(L:List α)(a:α):List α:=L.take (nj key L (key a))++[a]++L.drop (nj key L (key a))
theorem Ke {L:List α}{a:α} {by':Nat}(hb:(L.length+1) *by'<=2^46):sJ by' L (nj key L (key a):Int) [a]=some (Ez key L a):=by
 unfold sJ;rw [if_pos]
 ·rfl
 ·exact ⟨by omega,by simpa using Kb L _,by simp,by simpa using hb⟩
theorem Bv {L:List α} {by':Nat}(h:L.length *by'<=2^46):kC by' L=some L:=if_pos h
end
section
variable {α ρ:Type}
theorem take_succ {L:List α}{k:Nat}(hk:k<L.length):L.take (k+1)=L.take k++[L[k]]:=(List.take_append_getElem hk).symm
theorem EA {body:Int->Option (Int⊕(Unit⊕ρ))}(n:Nat)(p:Nat->Prop)(c:ρ)(h: ∀k,k<n->(∀j,j<k->p j)->(p k->body (k:Int)=some (.inl ((k+1:Nat):Int)))/\(¬p k->body (k:Int)=some (.inr (.inr c))))(he:body (n:Int)=some (.inr (.inl ()))):aO (Loop body 0) λr=>(r= .inl ()/\ ∀k,k<n->p k)\/(r= .inr c/\ ∃k,k<n/\ ¬p k):=by
 refine aO.count (λk=>(k:Int)) n (λk=> ∀j,j<k->p j) rfl (λj hj=>by omega) (λk hk hp=> ?_) (λhp=> ?_)
 ·by_cases hpk:p k
  ·refine .of ((h k hk hp).1 hpk) ⟨rfl,λj hj=> ?_⟩;by_cases ZN:j=k
   ·subst ZN;exact hpk
   ·exact hp j (by omega)
  ·exact .of ((h k hk hp).2 hpk) (.inr ⟨rfl,k,hk,hpk⟩)
 ·exact .of he (.inl ⟨rfl,hp⟩)
theorem xh [DecidableEq α]{a b:List α}{body:Int->Option (Int⊕(Unit⊕Bool))}(hl:a.length=b.length)(h: ∀k (ha:k<a.length)(hb:k<b.length),body (k:Int)=some (if a[k]=b[k] then .inl ((k+1:Nat):Int) else .inr (.inr false)))(he:body (a.length:Int)=some (.inr (.inl ()))):Loop body 0=some (if a=b then .inl () else .inr false):=by
 obtain ⟨r,e,hr⟩:=EA (body:=body) a.length (λk=>a[k]? =b[k]?) false (λk hk _=>by
  have hkb:k<b.length:=by omega
  rw [abr hk,abr hkb,h k hk hkb];constructor
  ·intro hh;rw [if_pos (by simpa using hh)]
  ·intro hh;rw [if_neg (by simpa using hh)]) he
 rw [e];rcases hr with ⟨rfl,nm⟩|⟨rfl,k,hk,dG⟩
 ·rw [if_pos];refine ael λk=> ?_;by_cases hk:k<a.length
  ·exact nm k hk
  ·rw [acq (by omega),acq (by omega)]
 ·rw [if_neg];intro Tx;subst Tx;exact dG rfl
end
end Dn
