import Derived.Test.YtbkodohojpchjaaGreatDoorDnB
import Derived.Laws.CopyRow
import Derived.Lib.AppendZerosOnto
import Derived.Lib.Overlaps
import Derived.Laws.Externs
import Derived.Lib.SlTrimSet
import Derived.Lib.Bytealg
import Derived.Shelf.Strings.Split
import Derived.Shelf.Strings.SlTrimAscii
import Derived.Shelf.Strings.Runes
import Derived.Lib.IndexBytes
import Derived.Control
/-
  Operations whose order is open. Conditions: none.
-/
set_option linter.unusedSimpArgs false
set_option linter.unusedVariables false
open List renaming range→c8,length_append→AI,length_take→AS,mem_cons→BY,take_append_of_le_length→aai,length_drop→aaG,take_of_length_le→aaI,length_cons→aaJ,getElem?_append_right→aaL,all_eq_true→aaX,mem_map→aa5,size_toArray→abH,mem_append→acB,getElem?_drop→acC,getElem?_eq_getElem→acD,getElem?_eq_some_iff→acJ,forall_mem_cons→acN,append_assoc→acQ,nodup_cons→ade,getElem?_eq_none→adv,map_cons→adJ,getElem?_take_of_lt→adK,map_append→adP,getElem?_take→aec,getElem?_cons_succ→aeg,take_take→aey,cons_append→aeD,mem_of_mem_drop→aeI,nil_append→ae4,length_map→afq,mem_singleton→afU,drop_drop→af2,ext_getElem?→af7,getElem?_map→agd,any_eq_true→agk,getElem_mem→agm,take_length→ags,sublist_cons_self→agx,drop_of_length_le→agC,mem_of_getElem?→ag5,take_left→ag9,getElem?_range→ahc,nodup_append→ahl,take_add_one→ahp,map_map→ahq,take_append→ahx,append_nil→ahE,drop_left→ahQ
open Bool renaming and_eq_true→sh,false_eq_true→By,not_eq_true'→abc,or_eq_true→agE,or_eq_false_iff→ag6,eq_false_iff→ahu
open Go.Region renaming ready→AT,wanted→OF,binds→adC,noSelect→afF
open Option.some renaming injEq→IN,inj→ahC
open Array renaming replicate→IS,length_toList→aaf,getElem?_append→abM,getElem?_eq_some_iff→acH,toList_inj→ac4,getElem?_toList→adq,getD_eq_getD_getElem?→adz,setIfInBounds_comm→agf,getElem?_replicate→agi,toList_map→agl,getElem?_modify→agF
open Nat renaming eq_of_beq_eq_true→IT,le_of_ble_eq_true→No,le_refl→aaa,ble→aaH,mul_le_mul_right→ab1,beq→acw,zero_le→acF,min_eq_left→acL,le_trans→acM,add_mul→acP,lt_of_lt_of_le→adY,zero_add→aew,succ_mul→aeB,ble_eq_true_of_le→aeC,sub_mul→aeH,add_comm→afM,min_def→ag8,add_zero→aib
open Go.Region.linearise renaming go→aaj
open Go.World renaming block_lt_of_cell?→aaK,cell?_of_block→acO,setRow→acR,frozen?→ahR
open Go.Next renaming value→aa6
open Go.Builtin renaming zeroCells→abG,copy_→acG,append_→acK,clear_→aez,firstCells→ahk
open Go.Act renaming put_comm→abR
open Go.Value renaming bool→abT,ownBlock→ac1,pointer→aeG,string→afO,cells→ag4,int→aiA
open Go.Result renaming ok→acA
open Prod.mk renaming injEq→acE
open Go.Lib renaming countB→acI,index→ac6,setCells→aeA,size_eq→aeK,splitB→af1,indexByte→ahS,trimS→aia
open Go.IntKind renaming wrap→acV,wrap_i64→adF,bits→ahr
open Go.Addr renaming add_mid→adb
open List.cons renaming injEq→adj
open Go.Oper renaming upon_value→adQ,wp→afK,wp_mono→afL,upon→afQ,apart_spec→agD
open Option renaming map_some→adX
open Go.Instr renaming sliceBounds→aeh,sliceBound→aeF,sliceAt→agj,slice→ag7
open Go.Deferred renaming ofValue→aeE
open Int renaming toNat_of_nonneg→afI
open Go.Proofs renaming enters_of→afJ
open Go renaming sizeOf→afR,binOp→agr
open Go.Code renaming region→age,wp_mono→agy
open List.Sublist renaming append_left→agh
open Go.Proofs.Any renaming strings_ContainsRune_ascii→agG
open Go.Proofs.Lays renaming n146→ahf,n160→aic,n151→aih
open Go.Extern.SlicesOverlaps renaming overlaps→ahB
open Ne renaming symm→ahK
open Go.Op renaming intCmp→ahW
namespace Dn
open Go
section
variable {P:Program}{c:Ctx}{ops:Array Oper}{N:Act->World->Prop}
def qi (N:Act->World->Prop):Exit->Act->World->Prop
 | .normal,a,w=>N a w
 |_,_,_=>False
def xV (c:Ctx)(oi:Oper)(ops:Array Oper)(i:Nat):Bool:=match ops[i]? with|some o=>YG c o||Ch oi o|none=>true
def KP (P:Program)(c:Ctx)(ops:Array Oper)(N:Act->World->Prop) (φ:Ph):Nat->Array Bool->Act->World->Prop
 |0,listed,a,w=>AT .any ops listed=[]/\N a w
 |fuel+1,listed,a,w=>(AT .any ops listed=[]->N a w)/\ ∀i∈AT .any ops listed,wpOp P ops (qi N) i (λa' w'=>((∀oi,xV c oi ops i=true->iq c oi w w')/\Co φ w')/\KP P c ops N φ fuel (listed.setIfInBounds i true) a' w') a w
theorem WK {φ φ':Ph}(hp:sn φ φ'): ∀(fuel:Nat)(listed:Array Bool)(a:Act)(w:World),KP P c ops N φ' fuel listed a w->KP P c ops N φ fuel listed a w:=by
 intro fuel;induction fuel with
 |zero=>intro listed a w h;exact h
 |succ fuel ih=>intro listed a w h;exact ⟨h.1,λi hi=>wpOp_mono (λa w h=>⟨⟨h.1.1,λb o v hv=>h.1.2 b o v (hp b o v hv)⟩,ih _ _ _ h.2⟩) (h.2 i hi)⟩
theorem Z7 {φ:Ph}: ∀(fuel:Nat)(listed:Array Bool)(a:Act)(w:World),KP P c ops N φ fuel listed a w->wpAny P .any ops (qi N) fuel listed a w:=by
 intro fuel;induction fuel with
 |zero=>intro listed a w h;exact h
 |succ fuel ih=>intro listed a w h;exact ⟨h.1,λi hi=>wpOp_mono (λa w h=>ih _ _ _ h.2) (h.2 i hi)⟩
theorem S3 {oi oj p:Oper} {w w':World}(h1:Ch oi p=true)(h2:Ch oj p=true)(h:iq c oi w w'):iq c oj w w':=by
 unfold Ch at h1 h2;split at h1
 ·rename_i t t' g1 g2;split at h2
  ·rename_i u u' g3 g4;rw [g2] at g4;cases g4;have e1:=IT h1;have e2:=IT h2;subst e1;subst e2;simpa [iq,adu,g1,g3] using h
  ·cases h2
 ·cases h1
theorem ahU {j:Nat}{oi oj:Oper}{v:Value}(hj:ops[j]? =some oj)(wB:oi.apart ops oj=true)(hsi: ∀cs b,oi.op≠ .select cs b)(hsj: ∀cs b,oj.op≠ .select cs b){K:Act->World->Prop}{a:Act}{w:World}(h:wpOp P ops (qi N) j K (a.put oi.dst v) w): wpOp P ops (qi N) j (λa' w'=>(execOp a'.eval oi=execOp a.eval oi/\OF oi (yielded ops a'.tmps)=OF oi (yielded ops a.tmps))/\K (a'.put oi.dst v) w') a w:=by
 obtain ⟨h1,h2,h3⟩:=agD wB;have keep: ∀(a:Act) (u:Value),execOp (a.put oj.dst u).eval oi=execOp a.eval oi/\OF oi (yielded ops (a.put oj.dst u).tmps)=OF oi (yielded ops a.tmps):=λa u=>⟨execOp_put oi hsi a oj.dst u h3,wanted_put oi a oj.dst u h3⟩
 unfold wpOp at *;simp only [hj] at *;rw [wanted_put oj a oi.dst v h1] at h;split
 ·rename_i hw;simp only [hw,if_true] at h;rcases h with h|⟨ak1,Z8⟩;case inr=>obtain ⟨_,_,hf⟩:=Z8;exact hf.elim
  refine .inl ?_;unfold afK at *;rw [execOp_put oj hsj a oi.dst v h1] at h;generalize (execOp a.eval oj).run P w=r at *;cases r with
  |ok n w'=>
   cases n<;>simp only [afQ] at h⊢;case value u=>exact ⟨keep a u,by rw [<-abR a v u h2];exact h⟩
   case skip=>exact ⟨keep a _,by rw [<-abR a v undef h2];exact h⟩
   case defer d=>refine ⟨keep _ _,?_⟩;rw [<-abR _ v undef h2,<-Act.put_defers];exact h
   case enter f args=>
    refine Calls.mono h λx Bf he=> ?_;cases x with
    |returned u=>exact ⟨keep a u,by rw [<-abR a v u h2];exact he⟩
    |panicked c=>exact he
    |outgrown=>exact he
   case row row args=>exact Rows.mono h λu Bf he=>⟨keep a u,by rw [<-abR a v u h2];exact he⟩
  |halt x w'=>cases x<;>simp only [afQ] at h⊢;case panic u=>exact h
 ·rename_i hw;simp only [hw] at h;exact ⟨keep a _,by rw [<-abR a v undef h2];exact h⟩
def U2 (P:Program)(c:Ctx)(ops:Array Oper) (φ:Ph)(o:Oper)(v:Value)(a:Act)(w:World):Prop:=(OF o (yielded ops a.tmps)=true/\ ∀w',(oL c o=true->(still c o=false->iq c o w w')/\Co φ w')->(execOp a.eval o).run P w'= .ok (.value v) w')\/ (OF o (yielded ops a.tmps)=false/\v=undef)
theorem ID {φ:Ph}{i:Nat}{oi:Oper}{v:Value}{D:List Nat}(hD: ∀j oj,j∈D->j≠i->ops[j]? =some oj-> ∃e∈oj.after,adC .any e=true/\e.on∈D)(hi:ops[i]? =some oi)(PY: ∀(j:Nat)(o:Oper) cs b,ops[j]? =some o->o.op≠ .select cs b): ∀(fuel:Nat)(listed:Array Bool)(a:Act)(w:World),(∀j oj,ops[j]? =some oj->j∉D->j≠i->listed.getD j true=false->oi.apart ops oj=true/\(oL c oi=true->still c oi=false->xV c oi ops j=true))->(∀d∈D,listed.getD d false=false)-> i∈AT .any ops listed->U2 P c ops φ oi v a w->Co φ w-> KP P c ops N φ fuel (listed.setIfInBounds i true) (a.put oi.dst v) w->KP P c ops N φ (fuel+1) listed a w:=by
 have self: ∀(fuel:Nat) (listed:Array Bool) (a:Act) (w:World),U2 P c ops φ oi v a w->Co φ w->KP P c ops N φ fuel (listed.setIfInBounds i true) (a.put oi.dst v) w-> wpOp P ops (qi N) i (λa' w'=>((∀oi,xV c oi ops i=true->iq c oi w w')/\Co φ w')/\KP P c ops N φ fuel (listed.setIfInBounds i true) a' w') a w:=by
  intro fuel listed a w hy hm H;unfold wpOp;simp only [hi];rcases hy with ⟨hw,hv⟩|⟨hw,rfl⟩
  ·simp only [hw,if_true,afK,hv w (λ_=>⟨λ_=>(eG.refl w).for,hm⟩),afQ];exact .inl ⟨⟨λ_ _=>(eG.refl w).for,hm⟩,H⟩
  ·simp only [hw,By,if_false];exact ⟨⟨λ_ _=>(eG.refl w).for,hm⟩,H⟩
 intro fuel;induction fuel with
 |zero=>
  intro listed a w _ _ hr hy hm H;refine ⟨λh=>(by rw [h] at hr;cases hr),λj hj=> ?_⟩;by_cases WL:j=i
  ·subst WL;exact self 0 listed a w hy hm H
  ·have:=ready_mono hj WL;rw [H.1] at this;cases this
 |succ fuel ih=>
  intro listed a w r9 GQ hr hy hm H;refine ⟨λh=>(by rw [h] at hr;cases hr),λj hj=> ?_⟩;by_cases WL:j=i
  ·subst WL;exact self (fuel+1) listed a w hy hm H
  ·have h1:=H.2 j (ready_mono hj WL);obtain ⟨adI,oj,hoj,lW⟩:=mem_ready.1 hj;have hjD:j∉D:=by intro hjd;obtain ⟨e,he,hb,vG⟩:=hD j oj hjd WL hoj;have h1:=lW e he hb;rw [GQ e.on vG] at h1;cases h1
   obtain ⟨wB,hgr⟩:=r9 j oj hoj hjD WL adI;have h2:=ahU hoj wB (λcs b=>PY i oi cs b hi) (λcs b=>PY j oj cs b hoj) h1;have ak2: ∀d∈D,(listed.setIfInBounds j true).getD d false=false:=by intro d hd;rw [getD_set_ne false (λhe=>hjD (by rw [he];exact hd))];exact GQ d hd
   have ahV: ∀k ok,ops[k]? =some ok->k∉D->k≠i->(listed.setIfInBounds j true).getD k true=false->oi.apart ops ok=true/\(oL c oi=true->still c oi=false->xV c oi ops k=true):=λk ok hk hkD O4 hun=>by
    refine r9 k ok hk hkD O4 ?_;by_cases WM:j=k
    ·subst WM;exact adI
    ·rw [getD_set_ne true WM] at hun;exact hun
   refine wpOp_mono (λa' w' h3=>⟨h3.2.1,ih (listed.setIfInBounds j true) a' w' ahV ak2 (ready_mono hr (ahK WL)) ?_ h3.2.1.2 ?_⟩) h2
   ·obtain ⟨⟨he,hwn⟩,⟨hg,_⟩,_⟩:=h3;rcases hy with ⟨hw,hv⟩|⟨hw,rfl⟩
    ·refine .inl ⟨by rw [hwn];exact hw,λBf S4=> ?_⟩;rw [he];exact hv Bf (λhl=>⟨λhs=>(hg oi (hgr hl hs)).trans ((S4 hl).1 hs),(S4 hl).2⟩)
    ·exact .inr ⟨by rw [hwn];exact hw,rfl⟩
   ·rw [agf _ _ WL];exact h3.2.2
variable {Z:cb}{R:Type}{K:St->Option R}{r:R}
theorem WN (op:Op):Sl op=op.operands.toList:=by
 cases op<;>first|rfl|simp [Sl,Op.operands,Call.operands]
 all_goals first|rfl|(rename_i c;cases c.callee<;>simp)
theorem Z9 (l:List Operand):Pj l=l.filterMap λ| .tmp t=>some t|_=>none:=by
 induction l with
 |nil=>rfl
 |cons x l ih=>cases x<;>simp [Pj,ih]
theorem L8 (o:Oper):Nd ops.toList o=o.looksAt ops:=by
 unfold Nd Oper.looksAt;rw [WN,Z9];congr 1;cases o.guard with
 |none=>rfl
 |some g=>obtain ⟨g,wnt⟩:=g;simp only [adq];cases ops[g]? <;>rfl
theorem Bp {x y:Oper}(h:Nf ops.toList x y=true):x.apart ops y=true:=by
 unfold Nf at h;unfold Oper.apart;rw [L8,L8] at h;have hn: ∀(l:List Nat) (d:Nat),bX l d=l.contains d:=by intro l d;have:=b8 l d;cases h1:bX l d<;>cases h2:l.contains d<;>simp_all
 cases hx:x.dst<;>cases hy:y.dst<;>simp_all [bne,gj]
theorem wG (e:Edge):HN e=adC .any e:=by unfold HN adC;cases e.ground<;>rfl
structure Lst (ops:Array Oper) (listed:Array Bool) (pre:List Nat):Prop where
 size:listed.size=ops.size
 mem: ∀i,i<ops.size->(listed.getD i true=true↔i∈pre)
theorem Lst.set {listed:Array Bool}{pre:List Nat}{x:Nat}(h:Lst ops listed pre)(hx:x<ops.size):Lst ops (listed.setIfInBounds x true) (x::pre):=by
 refine ⟨by simpa using h.size,λi hi=> ?_⟩;by_cases Yl:x=i
 ·subst Yl;have:x<listed.size:=by rw [h.size];exact hx
  simp [this]
 ·rw [getD_set_ne true Yl,h.mem i hi];simp only [BY];exact ⟨.inr,λhh=>hh.resolve_left (λhe=>Yl he.symm)⟩
theorem Lst.DF {listed:Array Bool}{pre:List Nat}{i:Nat}(h:Lst ops listed pre)(hi:i<ops.size):listed.getD i true=false↔i∉pre:=by rw [<-h.mem i hi];cases listed.getD i true<;>simp
theorem Lst.done {listed:Array Bool}{pre:List Nat}{i:Nat}(h:Lst ops listed pre)(hi:i<ops.size):listed.getD i false=true↔i∈pre:=by
 rw [<-h.mem i hi];have hl:i<listed.size:=by rw [h.size];exact hi
 simp [hl]
theorem z8: ∀(rest pre:List Nat),wo c ops.toList pre rest=true-> ∀z∈rest,z∉pre:=by
 intro rest;induction rest with
 |nil=>intro pre _ z hz;cases hz
 |cons y rest ihr=>
  intro pre hd z hz;simp only [wo] at hd;cases hy:ops.toList[y]? with
  |none=>simp [hy] at hd
  |some oy=>
   simp only [hy,sh,abc] at hd;rcases BY.1 hz with rfl|hz
   ·rw [<-b8,hd.1.1.1.2];simp
   ·exact λhzp=>ihr (y::pre) hd.2 z hz (by simp [hzp])
theorem KQ {o:Oper}{x:Nat}: ∀(rest D0:List Nat),td c ops.toList o D0 rest=true->(∀y,y∈D0->y≠x-> ∃p,ops[y]? =some p/\ ∃e∈p.after,adC .any e=true/\e.on∈D0)-> ∃D:List Nat,(∀y∈D0,y∈D)/\(∀y∈D,y∈D0\/y∈rest)/\(∀j oj,j∈D->j≠x->ops[j]? =some oj-> ∃e∈oj.after,adC .any e=true/\e.on∈D)/\ (∀y∈rest,y∉D-> ∃p,ops[y]? =some p/\o.apart ops p=true/\(oL c o=true->still c o=false->(YG c p||Ch o p)=true)):=by
 intro rest;induction rest with
 |nil=>intro D0 _ h0;refine ⟨D0,λy hy=>hy,λy hy=> .inl hy,λj oj hj dG ho=> ?_,λy hy=>by cases hy⟩;obtain ⟨p,hp,he⟩:=h0 j hj dG;rw [ho] at hp;cases hp;exact he
 |cons y rest ih=>
  intro D0 h h0;simp only [td] at h;cases hy:ops.toList[y]? with
  |none=>simp [hy] at h
  |some p=>
   simp only [hy] at h;have hy':ops[y]? =some p:=by simpa using hy
   cases he:CC p (bX D0) with
   |true=>
    simp only [he,cond_true] at h;obtain ⟨D,D1,D2,D3,D4⟩:=ih (y::D0) h (by
     intro z hz dG;rcases BY.1 hz with rfl|hz
     ·unfold CC at he;obtain ⟨ed,hed,hb⟩:=agk.1 he;simp only [sh,wG] at hb;exact ⟨p,hy',ed,by simpa using hed,hb.1,by simp [(b8 _ _).1 hb.2]⟩
     ·obtain ⟨q,hq,ed,h1,h2,h3⟩:=h0 z hz dG;exact ⟨q,hq,ed,h1,h2,by simp [h3]⟩)
    refine ⟨D,λz hz=>D1 z (by simp [hz]),λz hz=> ?_,D3,λz hz hzD=> ?_⟩
    ·rcases D2 z hz with h1|h1
     ·rcases BY.1 h1 with h1|h1
      ·exact .inr (by simp [h1])
      ·exact .inl h1
     ·exact .inr (by simp [h1])
    ·rcases BY.1 hz with rfl|hz
     ·exact absurd (D1 z (by simp)) hzD
     ·exact D4 z hz hzD
   |false=>
    simp only [he,cond_false,sh,agE,abc] at h;obtain ⟨⟨h1,h2⟩,h3⟩:=h;obtain ⟨D,D1,D2,D3,D4⟩:=ih D0 h3 h0;refine ⟨D,D1,λz hz=>(D2 z hz).imp id (λh=>by simp [h]),D3,λz hz hzD=> ?_⟩;rcases BY.1 hz with rfl|hz
    ·refine ⟨p,hy',Bp h1,λhl hs=> ?_⟩;rcases h2 with ((h2|h2)|h2)|h2
     ·rw [hl] at h2;cases h2
     ·simp [h2]
     ·rw [hs] at h2;cases h2
     ·simp [h2]
    ·exact D4 z hz hzD
def cb.outs (Z:cb)(bs:List Nat):cb:={Z with In:=λb=>Z.In b/\b∉bs,Pr:=λb=>Z.Pr b/\b∉bs}
theorem cG.Gg {Z Z':cb}{e:Env}{st:St}{a:Act}{w:World}(h:cG c Z e st a w)(hI: ∀b,Z.In b->Z'.In b)(hP: ∀b,Z.Pr b->Z'.Pr b)(h1:Z'.df=Z.df)(h2:Z'.cY=Z.cY)(h3:Z'.T=Z.T)(h4:Z'.cov=Z.cov):cG c Z' e st a w:=by
 refine ⟨by rw [h1,h2,h3];exact h.defers,h.size,h.m,h.key,h.nodup,λt=> ?_,h.root,λf o ho=> ?_,h.bb,h.bf,h.ff,h.qe,λb hb=>hI b (h.dm b hb)⟩
 ·have hs:=h.slot t;generalize av st.fr t=s at hs;cases s<;>simp only [cz] at hs⊢ <;>first|exact hs|skip
  exact ⟨⟨hs.1.1,λhp=>by rw [h1,h3];exact hs.1.2 hp⟩,⟨by rcases hs.2.dm with ⟨x,y⟩|x;exact .inl ⟨by rw [h1];exact x,hP _ y⟩;exact .inr (hI _ x),hs.2.obj,hs.2.free⟩⟩
 ·obtain ⟨I,cells,g1,g2,g3,g4,g5⟩:=(h.jN f o ho).row;refine ⟨I,cells,g1,g2,g3,g4,λbB hb=> ?_⟩;obtain ⟨k1,k2,k3⟩:=g5 bB hb;refine ⟨?_,k2,λhc hz j hj=>k3 (by have hc:f∈Z'.cY:=hc;rw [h2] at hc;exact hc) hz j hj⟩;rcases k1 with ⟨x,y⟩|x
  ·exact .inl ⟨by rw [h2];exact x,hP _ y⟩
  ·exact .inr (hI _ x)
theorem cG.narrow {e:Env}{st:St}{a:Act} {w w':World}{bs:List Nat}(h:cG c (Z.outs bs) e st a w)(g:eG w w')(hs:w.heap.size<w'.heap.size):cG c (Z.outs (w.heap.size::bs)) e st a w':=by
 have h':=h.grow g;have vI: ∀b,b<w.heap.size->(Z.outs bs).In b->(Z.outs (w.heap.size::bs)).In b:=λb hb hi=>⟨hi.1,by simp only [BY,not_or];exact ⟨by omega,hi.2⟩⟩
 have H8: ∀b,b<w.heap.size->(Z.outs bs).Pr b->(Z.outs (w.heap.size::bs)).Pr b:=λb hb hi=>⟨hi.1,by simp only [BY,not_or];exact ⟨by omega,hi.2⟩⟩
 refine ⟨h'.defers,h'.size,h'.m,h'.key,h'.nodup,λt=> ?_,h'.root,λf o ho=> ?_,h'.bb,h'.bf,h'.ff,h'.qe,λb hb=> ?_⟩
 ·have hs:=h.slot t;have Bi:=h'.slot t;generalize av st.fr t=s at hs Bi;cases s<;>simp only [cz] at hs Bi⊢ <;>first|exact Bi|skip
  obtain ⟨o2,k1,_⟩:=hs.2.obj;have hl:=bZ k1;exact ⟨Bi.1,⟨by rcases Bi.2.dm with ⟨x,y⟩|x;exact .inl ⟨x,H8 _ hl y⟩;exact .inr (vI _ hl x),Bi.2.obj,Bi.2.free⟩⟩
 ·obtain ⟨I,cells,g1,g2,g3,g4,g5⟩:=(h'.jN f o ho).row;refine ⟨I,cells,g1,g2,g3,g4,λbB hb=> ?_⟩;obtain ⟨k1,k2,k3⟩:=g5 bB hb;refine ⟨?_,k2,k3⟩;have hl:bB<w.heap.size:=by
   obtain ⟨I',Y2,l1,l2,l3,l4,l5⟩:=(h.jN f o ho).row;rcases l3.2 with ⟨hv,_⟩|⟨gg,cap,dL,hv,_,hg,_⟩
   ·rw [hv] at hb;simp [ac1] at hb
   ·rw [hv] at hb;simp only [ac1,IN] at hb;have:=bZ hg;omega
  rcases k1 with ⟨x,y⟩|x
  ·exact .inl ⟨x,H8 _ hl y⟩
  ·exact .inr (vI _ hl x)
 ·refine ⟨(h.dm b (by omega)).1,?_⟩;simp only [BY,not_or];exact ⟨by omega,(h.dm b (by omega)).2⟩
def vOf (b:Nat):Value:= .pointer (some ⟨b,0,none⟩)
def wH (ops:Array Oper)(i:Nat):Option Nat:=match ops[i]? with
 |some o=>o.dst
 |none=>none
def vM (ops:Array Oper):List (Nat×Nat)->Act->Act
 |[],a=>a
 |p::r,a=>(vM ops r a).put (wH ops p.1) (vOf p.2)
structure adL (c:Ctx) (Z:cb) (ops:Array Oper) (e:Env) (w:World) (p:Nat×Nat):Prop where
 row: ∃o t I d arr T,ops[p.1]? =some o/\Pk o=true/\o.op= .alloc t/\c.tv t=some I/\o.dst=some d/\w.heap[p.2]? =some (.cells arr T (0,0))/\ ∀e':Env,aJ e' arr.toList I.zero
 free: ∀off,e.φ p.2 off=none
 dm:Z.In p.2
theorem Bq {o:Oper}(h:Pk o=true): ∃t d,o.op= .alloc t/\o.dst=some d/\o.guard=none/\ ∀e∈o.after,adC .any e=false:=by
 unfold Pk at h;split at h
 ·rename_i t d h1 h2 h3;refine ⟨t,d,h1,h2,h3,λe he=> ?_⟩;have:=aaX.1 h e (by simpa using he);simpa [wG] using this
 ·cases h
theorem CR {t:TypeId}{I:TI}(hI:c.tv t=some I)(hT:lV P c.ti): ∃i z,P.info? t=some i/\i.zero=some z/\ ∀e:Env,aJ e z.cells.toList I.zero:=by
 obtain ⟨uC,hc⟩:=cc hI;obtain ⟨d,i,h1,h2,h3,h4⟩:=hT t I uC;suffices hz: ∃z,i.zero=some z/\ ∀e:Env,aJ e z.cells.toList I.zero by obtain ⟨z,h5,h6⟩:=hz;exact ⟨i,z,h2,h5,h6⟩
 cases d<;>simp only [uB] at h4;case struct fs=>obtain ⟨_,_,_,_,_,_,cs,hz,hl,_⟩:=h4;exact ⟨_,hz,λe=>by simpa [ag4] using qR hl⟩
 case tuple ts=>exact absurd hc h4.2.1
 case slice el=>obtain ⟨_,_,_,_,_,hz,hl,_⟩:=h4;exact ⟨_,hz,λe=>by rw [hl];exact ⟨[.slice none 0 0],[],rfl,rfl,rfl⟩⟩
 case array n el=>obtain ⟨_,_,_,_,_,_,_,hl,hz⟩:=h4;exact ⟨_,hz,λe=>by rw [hl];exact ⟨bT lQ.zero,[],by simp [ag4],rfl,rfl⟩⟩
 case bool=>obtain ⟨_,_,_,_,hl,hz⟩:=h4;exact ⟨_,hz,λe=>by rw [hl];exact ⟨[.bool false],[],rfl,⟨rfl,.b _⟩,rfl⟩⟩
 case int k=>obtain ⟨_,_,_,_,hl,hz⟩:=h4;exact ⟨_,hz,λe=>by rw [hl];exact ⟨[.int k 0],[],rfl,⟨rfl,.i _ _⟩,rfl⟩⟩
 case string=>obtain ⟨_,_,_,_,hl,b,hz,hb⟩:=h4;refine ⟨_,hz,λe=>by rw [hl];refine ⟨[.string b],[],rfl,⟨rfl,?_⟩,rfl⟩;rw [<-hb];exact .s b⟩
 all_goals
  obtain ⟨_,_,_,_,v,hz,hv,hl⟩:=h4;refine ⟨v,hz,λe=> ?_⟩;have:v.cells.toList=[v]:=by cases v<;>simp_all [ag4,Value.oneCell']
  rw [this];exact qR hl
theorem Gh {o:Oper}(hs: ∀cs b,o.op≠ .select cs b)(a:Act): ∀(pd:List (Nat×Nat)),(∀p∈pd,∀d,wH ops p.1=some d->d∉o.looksAt ops)-> execOp (vM ops pd a).eval o=execOp a.eval o/\OF o (yielded ops (vM ops pd a).tmps)=OF o (yielded ops a.tmps)
 |[],_=>⟨rfl,rfl⟩
 |p::r,h=>by obtain ⟨h1,h2⟩:=Gh hs a r (λq hq=>h q (by simp [hq]));have hp:=h p (by simp);exact ⟨(execOp_put o hs _ _ _ hp).trans h1,(wanted_put o _ _ _ hp).trans h2⟩
theorem DG (a:Act)(y:Option Nat)(v:Value): ∀(pd:List (Nat×Nat)),(∀p∈pd,∀d,wH ops p.1=some d->y≠some d)->(vM ops pd a).put y v=vM ops pd (a.put y v)
 |[],_=>rfl
 |p::r,h=>by simp only [vM];rw [abR _ _ _ (λd hd=>h p (by simp) d hd),DG a y v r (λq hq=>h q (by simp [hq]))]
theorem adM {j:Nat}{oj:Oper}{x:Option Nat}{v:Value}(hj:ops[j]? =some oj)(h1: ∀d,x=some d->d∉oj.looksAt ops)(h2: ∀d,x=some d->oj.dst≠some d)(hsj: ∀cs b,oj.op≠ .select cs b){K:Act->World->Prop}{a:Act}{w:World}(h:wpOp P ops (qi N) j K a w): wpOp P ops (qi N) j (λa' w'=> ∃a'',a'=a''.put x v/\K a'' w') (a.put x v) w:=by
 unfold wpOp at *;simp only [hj] at *;rw [wanted_put oj a x v h1];split
 ·rename_i hw;simp only [hw,if_true] at h;rcases h with h|⟨ak1,Z8⟩;case inr=>obtain ⟨_,_,hf⟩:=Z8;exact hf.elim
  refine .inl ?_;unfold afK at *;rw [execOp_put oj hsj a x v h1];generalize (execOp a.eval oj).run P w=r at *;cases r with
  |ok n w'=>
   cases n<;>simp only [afQ] at h⊢;case value u=>exact ⟨_,abR a v u h2,h⟩
   case skip=>exact ⟨_,abR a v undef h2,h⟩
   case defer d=>refine ⟨{a.put oj.dst undef with defers:=d::(a.put oj.dst undef).defers},?_,by simpa [Act.put_defers] using h⟩;have:=abR a v undef h2;cases x<;>cases hd:oj.dst<;>simp_all [Act.put]
   case enter f args=>
    refine Calls.mono h λy Bf he=> ?_;cases y with
    |returned u=>exact ⟨_,abR a v u h2,he⟩
    |panicked c=>exact he
    |outgrown=>exact he
   case row row args=>exact Rows.mono h λu Bf he=>⟨_,abR a v u h2,he⟩
  |halt y w'=>cases y<;>simp only [afQ] at h⊢;case panic u=>exact h
 ·rename_i hw;simp only [hw] at h;exact ⟨_,abR a v undef h2,h⟩
theorem U3 {j:Nat}{oj:Oper}(hj:ops[j]? =some oj)(hsj: ∀cs b,oj.op≠ .select cs b){K:Act->World->Prop}{a:Act}{w:World}(h:wpOp P ops (qi N) j K a w): ∀(pd:List (Nat×Nat)),(∀p∈pd,∀d,wH ops p.1=some d->d∉oj.looksAt ops/\oj.dst≠some d)->wpOp P ops (qi N) j (λa' w'=> ∃a'',a'=vM ops pd a''/\K a'' w') (vM ops pd a) w
 |[],_=>wpOp_mono (λa' w' hk=>⟨a',rfl,hk⟩) h
 |p::r,hp=>by have h1:=U3 hj hsj h r (λq hq=>hp q (by simp [hq]));have h2:=adM (v:=vOf p.2) hj (λd hd=>(hp p (by simp) d hd).1) (λd hd=>(hp p (by simp) d hd).2) hsj h1;refine wpOp_mono ?_ h2;rintro a' w' ⟨a1,rfl,a2,rfl,hk⟩;exact ⟨a2,rfl,hk⟩
theorem Fi: ∀{l m:List Nat},l.Nodup->(∀x∈l,x∈m)->l.length<=m.length
 |[],m,_,_=>acF _
 |x::l,m,hn,hs=>by have hn:=ade.1 hn;have h1:l.length<=(m.erase x).length:=Fi hn.2 λy hy=>(List.mem_erase_of_ne (λhe=>hn.1 (by rw [<-he];exact hy))).2 (hs y (by simp [hy]));have h2:=List.length_erase_of_mem (hs x (by simp));have h3:0<m.length:=List.length_pos_of_mem (hs x (by simp));simp only [aaJ];omega
theorem PZ {x b:Nat}{o:Oper}(hdo:wH ops x=o.dst)(a:Act)(pr:List (Nat×Nat)): ∀(pl:List (Nat×Nat)),(∀p∈pl++pr,∀dd,wH ops p.1=some dd->o.dst≠some dd)->vM ops (pl++(x,b)::pr) a=vM ops (pl++pr) (a.put o.dst (vOf b))
 |[],h=>by simp only [ae4,vM,hdo];exact DG a o.dst (vOf b) pr (λp hp=>h p (by simp [hp]))
 |q::pl,h=>by simp only [aeD,vM];rw [PZ hdo a pr pl (λp hp=>h p (by simp only [aeD,BY];exact .inr hp))]
theorem Lst.congr {listed:Array Bool} {l l':List Nat}(h:Lst ops listed l)(he: ∀i,i∈l↔i∈l'):Lst ops listed l':=⟨h.size,λi hi=>by rw [h.mem i hi,he]⟩
theorem P0 {o:Oper}: ∀(rest D:List Nat),td c ops.toList o D rest=true-> ∀y∈rest,∀p,ops[y]? =some p->Pk p=true->o.apart ops p=true:=by
 intro rest;induction rest with
 |nil=>intro D _ y hy;cases hy
 |cons z rest ih=>
  intro D h y hy p hp GP;simp only [td] at h;cases hz:ops.toList[z]? with
  |none=>simp [hz] at h
  |some q=>
   simp only [hz] at h;cases he:CC q (bX D) with
   |true=>
    simp only [he,cond_true] at h;rcases BY.1 hy with rfl|hy
    ·exfalso;have hz':ops[y]? =some q:=by simpa using hz
     rw [hz'] at hp;cases hp;obtain ⟨_,_,_,_,_,dG⟩:=Bq GP;unfold CC at he;obtain ⟨ed,hed,hb⟩:=agk.1 he;simp only [sh,wG] at hb;rw [dG ed (by simpa using hed)] at hb;exact absurd hb.1 (by simp)
    ·exact ih _ h y hy p hp GP
   |false=>
    simp only [he,cond_false,sh] at h;rcases BY.1 hy with rfl|hy
    ·have hz':ops[y]? =some q:=by simpa using hz
     rw [hz'] at hp;cases hp;exact Bp h.1.1
    ·exact ih _ h.2 y hy p hp GP
theorem IE {o p:Oper}{y:Nat}(hp:ops[y]? =some p)(h:p.apart ops o=true\/o.apart ops p=true): ∀d,wH ops y=some d->d∉o.looksAt ops/\o.dst≠some d:=by
 intro d hd;have hd:p.dst=some d:=by simpa [wH,hp] using hd
 rcases h with h|h
 ·obtain ⟨h1,h2,h3⟩:=agD h;exact ⟨h1 d hd,h2 d hd⟩
 ·obtain ⟨h1,h2,h3⟩:=agD h;exact ⟨h3 d hd,λhe=>h2 d he hd⟩
theorem adL.later {Z:cb}{bs:List Nat} {e e':Env} {w w':World}{p:Nat×Nat}(h:adL c Z ops e w p)(hb:p.2∈bs)(t:Trans (Z.outs bs).In e.φ w e'.φ w'):adL c Z ops e' w' p:=by obtain ⟨o,ty,I,d,arr,T,h1,h2,h3,h4,h5,h6,h7⟩:=h.row;have hn: ¬(Z.outs bs).In p.2:=λhh=>hh.2 hb;exact ⟨⟨o,ty,I,d,arr,T,h1,h2,h3,h4,h5,by rw [t.heap _ hn (bZ h6)];exact h6,h7⟩,λoff=>by rw [t.free _ off hn];exact h.free off,h.dm⟩
theorem Trans.wide {Z Z':Nat->Prop} {φ φ':Ph} {w w':World}(t:Trans Z φ w φ' w')(h: ∀b,Z b->Z' b):Trans Z' φ w φ' w':=⟨t.ph,λb hb hl=>t.heap b (λhz=>hb (h b hz)) hl,λb o hb=>t.free b o (λhz=>hb (h b hz)),t.size,t.rest⟩
theorem adN (hG:Good P c)(PY: ∀(j:Nat)(o:Oper) cs b,ops[j]? =some o->o.op≠ .select cs b) {φ0:Ph}{w0:World}(hN: ∀a' w',Out c Z K r φ0 w0 a' w'->N a' w'): ∀(m:Nat)(rest pre:List Nat)(pd:List (Nat×Nat))(l:List Oper)(listed:Array Bool)(e:Env)(st:St)(a:Act)(w:World),2 *rest.length-pd.length<=m->cG c (Z.outs (pd.map (·.2))) e st a w->BZ c ops.toList l st K=some r->Trans Z.In φ0 w0 e.φ w->qy ops.toList rest=some l-> wo c ops.toList pre rest=true->Lst ops listed (pd.map (·.1)++pre)->(∀i,i<ops.size->i∈pre\/i∈rest)->(∀i∈pre,i<ops.size)->(∀p∈pd,p.1∈rest)->(pd.map (·.1)).Nodup->(pd.map (·.2)).Nodup->(∀p∈pd,adL c Z ops e w p)-> pd.length<=rest.length->KP P c ops N e.φ (rest.length-pd.length) listed (vM ops pd a) w:=by
 intro m;induction m with
 |zero=>
  intro rest pre pd l listed e st a w hm h hK ht hp hd hL lW aab H8 KH GM Yg hle;cases rest with
  |cons x rest=>simp only [aaJ] at hm hle;omega
  |nil=>
   cases pd with
   |cons p pd=>simp at hle
   |nil=>
    cases hp;have h':cG c Z e st a w:=h.Gg (λb hb=>hb.1) (λb hb=>hb.1) rfl rfl rfl rfl;refine ⟨?_,hN a w ⟨e,st,h',ht,hK⟩⟩;cases hr:AT .any ops listed with
    |nil=>rfl
    |cons i is=>
     have hi:i∈AT .any ops listed:=by rw [hr];simp
     obtain ⟨h1,o,ho,_⟩:=mem_ready.1 hi;have dK:i<ops.size:=(acH.1 ho).1;exact absurd (by simpa using (lW i dK).resolve_right (by simp)) ((hL.DF dK).1 h1)
 |succ m ihm=>
  intro rest pre pd l listed e st a w hm h hK ht hp hd hL lW aab H8 KH GM Yg hle;cases rest with
  |nil=>
   cases pd with
   |cons p pd=>simp at hle
   |nil=>exact ihm [] pre [] l listed e st a w (by simp) h hK ht hp hd hL lW aab H8 KH GM Yg hle
  |cons x rest=>
   simp only [qy] at hp;cases hox:ops.toList[x]? with
   |none=>simp [hox] at hp
   |some o=>
    cases hpk:qy ops.toList rest with
    |none=>simp [hox,hpk] at hp
    |some l'=>
     simp only [hox,hpk,IN] at hp;subst hp;have hx:ops[x]? =some o:=by simpa using hox
     have ahX:x<ops.size:=(acH.1 hx).1;have hd0:=hd;simp only [wo,hox] at hd;simp only [sh,abc] at hd;obtain ⟨⟨⟨⟨d1,d2⟩,d3⟩,d4⟩,d5⟩:=hd;have af8:x∉pre:=by rw [<-b8,d2];simp
     have ao5:x∉rest:=by rw [<-b8,d3];simp
     have U4: ∀i,i<ops.size->i∈x::pre\/i∈rest:=by
      intro i hi;rcases lW i hi with h1|h1
      ·exact .inl (by simp [h1])
      ·rcases BY.1 h1 with h1|h1
       ·exact .inl (by simp [h1])
       ·exact .inr h1
     have af9: ∀i∈x::pre,i<ops.size:=by
      intro i hi;rcases BY.1 hi with rfl|hi
      ·exact ahX
      ·exact aab i hi
     have ahY:=hK;simp only [BZ] at hK;have aac: ∀p∈pd,∃q,ops[p.1]? =some q/\Pk q=true:=λp hp=>by obtain ⟨q,_,_,_,_,_,h1,h2,_⟩:=(Yg p hp).row;exact ⟨q,h1,h2⟩
     unfold UA at hK;obtain ⟨cO,go,h',hK,hw⟩:=PN h hK;have aga: ∀cs b,o.op≠ .select cs b:=λcs b=>PY x o cs b hx;by_cases hxp:x∈pd.map (·.1)
     ·
      obtain ⟨⟨x',b⟩,hpx,hxe⟩:=aa5.1 hxp;have hxe:x'=x:=hxe;subst hxe;obtain ⟨o',t,I,d,arr,T,k1,k2,k3,k4,k5,k6,k7⟩:=(Yg _ hpx).row;rw [hx] at k1;cases k1;obtain ⟨_,_,_,_,hgn,dG⟩:=Bq k2;have hgo:go=true:=by rw [<-hw];simp [OF,hgn]
      subst hgo;have Po:(uA o&&!oT c o)=false:=by simp [uA,k3]
      simp only [Po,cond_false] at d4;obtain ⟨pl,pr,rfl⟩:=List.append_of_mem hpx;have hbn:b∉(pl++pr).map (·.2):=by have:((pl++(x',b)::pr).map (·.2)).Nodup:=GM;simp only [adP,adJ,ahl,ade,BY] at this;simp only [adP,acB,not_or];exact ⟨λhm=>this.2.2 b hm b (by simp) rfl,this.2.1.1⟩
      have hxn:x'∉(pl++pr).map (·.1):=by have:((pl++(x',b)::pr).map (·.1)).Nodup:=KH;simp only [adP,adJ,ahl,ade,BY] at this;simp only [adP,acB,not_or];exact ⟨λhm=>this.2.2 x' hm x' (by simp) rfl,this.2.1.1⟩
      have P1: ∀p∈pl++pr,p∈pl++(x',b)::pr:=λp hp=>by
       simp only [acB,BY] at hp⊢;rcases hp with hp|hp
       ·exact .inl hp
       ·exact .inr (.inr hp)
      have tg:cG c (Z.outs ((pl++pr).map (·.2))) e cO a w:=by
       refine h'.Gg (λu hu=>⟨hu.1,λhm=>hu.2 ?_⟩) (λu hu=>⟨hu.1,λhm=>hu.2 ?_⟩) rfl rfl rfl rfl<;>
       ·obtain ⟨p,hp,rfl⟩:=aa5.1 hm;exact aa5.2 ⟨p,P1 p hp,rfl⟩
      have adO:b∈(pl++(x',b)::pr).map (·.2):=by simp
      have lN:tf (Z.outs ((pl++pr).map (·.2))) e w cO (vOf b) (.box I.zero):=by
       refine ⟨b,by rw [vE (k7 e).Ck];rfl,⟨⟨(Yg _ hpx).dm,hbn⟩,⟨_,k6,rfl,k7 e⟩,(Yg _ hpx).free⟩,λt' gK CH ET=> ?_,λf o' CF ET=> ?_⟩
       ·have hs:=h'.slot t';rw [CH] at hs;rcases hs.2.dm with ⟨_,u⟩|u
        ·exact u.2 (by rw [ET];exact adO)
        ·exact u.2 (by rw [ET];exact adO)
       ·obtain ⟨I',cells,g1,g2,g3,g4,g5⟩:=(h'.jN f o' CF).row;rcases (g5 b ET).1 with ⟨_,u⟩|u
        ·exact u.2 adO
        ·exact u.2 adO
      simp only [cond_true,opK,k3,k4] at hK;obtain ⟨e2,ei,j1,j2,j3⟩:=ew tg lN hK;have ahZ:vM ops (pl++(x',b)::pr) a=vM ops (pl++pr) (a.put o.dst (vOf b)):=by
       have wB: ∀p∈pl++pr,∀dd,wH ops p.1=some dd->o.dst≠some dd:=by
        intro p hp dd hdd;obtain ⟨q,hq,GP⟩:=aac p (P1 p hp);have S5:p.1∈rest:=by
         rcases BY.1 (H8 p (P1 p hp)) with he|he
         ·exact absurd (aa5.2 ⟨p,hp,he⟩) hxn
         ·exact he
        have:=aaX.1 d4 p.1 S5;have hq':ops.toList[p.1]? =some q:=by simpa using hq
        simp only [hq',GP,cond_true,sh] at this;exact (IE hq (.inl (Bp this.1)) dd hdd).2
       exact PZ (by simp [wH,hx]) a pr pl wB
      rw [ahZ,<-j3];have hlen:(x'::rest).length-(pl++(x',b)::pr).length=rest.length-(pl++pr).length:=by simp only [aaJ,AI];omega
      rw [hlen];refine ihm rest (x'::pre) (pl++pr) l' listed e2 ei _ w ?_ j1 j2 (by rw [j3];exact ht) hpk d5 ?_ U4 af9 ?_ ?_ ?_ ?_ ?_
      ·simp only [aaJ,AI] at hm⊢;omega
      ·refine hL.congr (λi=> ?_);simp only [adP,adJ,acB,BY];constructor
       ·rintro ((h1|h1|h1)|h1)
        ·exact .inl (.inl h1)
        ·exact .inr (.inl h1)
        ·exact .inl (.inr h1)
        ·exact .inr (.inr h1)
       ·rintro ((h1|h1)|h1|h1)
        ·exact .inl (.inl h1)
        ·exact .inl (.inr (.inr h1))
        ·exact .inl (.inr (.inl h1))
        ·exact .inr h1
      ·intro p hp;rcases BY.1 (H8 p (P1 p hp)) with he|he
       ·exact absurd (aa5.2 ⟨p,hp,he⟩) hxn
       ·exact he
      ·have:((pl++(x',b)::pr).map (·.1)).Nodup:=KH;refine List.Nodup.sublist ?_ this;exact List.Sublist.map _ (agh (agx _ _) pl)
      ·have:((pl++(x',b)::pr).map (·.2)).Nodup:=GM;refine List.Nodup.sublist ?_ this;exact List.Sublist.map _ (agh (agx _ _) pl)
      ·intro p hp;obtain ⟨q1,q2,q3⟩:=Yg p (P1 p hp);exact ⟨q1,λoff=>by rw [j3];exact q2 off,q3⟩
      ·simp only [aaJ,AI] at hle⊢;omega
     ·have S5: ∀p∈pd,p.1∈rest:=λp hp=>by
       rcases BY.1 (H8 p hp) with he|he
       ·exact absurd (aa5.2 ⟨p,hp,he⟩) hxp
       ·exact he
      have hlr:pd.length<=rest.length:=by have h1:(pd.map (·.1)).length<=rest.length:=Fi KH (λi hi=>by obtain ⟨p,hp,rfl⟩:=aa5.1 hi;exact S5 p hp);simpa using h1
      have ak6:(x::rest).length-pd.length=(rest.length-pd.length)+1:=by simp only [aaJ];omega
      rw [ak6];have hun:x∉pd.map (·.1)++pre:=by simp only [acB,not_or];exact ⟨hxp,af8⟩
      have NG:x∈AT .any ops listed:=by refine mem_ready.2 ⟨(hL.DF ahX).2 hun,o,hx,λed hed hb=> ?_⟩;have:=aaX.1 d1 ed (by simpa using hed);simp only [wG,hb,Bool.not_true,Bool.false_or] at this;have hm:=(b8 _ _).1 this;exact (hL.done (aab _ hm)).2 (by simp [hm])
      have next: ∀(e':Env) (ei:St) (a':Act) (w':World),cG c (Z.outs (pd.map (·.2))) e' ei a' w'->Trans (Z.outs (pd.map (·.2))).In e.φ w e'.φ w'->BZ c ops.toList l' ei K=some r->KP P c ops N e.φ (rest.length-pd.length) (listed.setIfInBounds x true) (vM ops pd a') w':=by
       intro e' ei a' w' h1 t1 su;refine WK t1.ph _ _ _ _ ?_;refine ihm rest (x::pre) pd l' _ e' ei a' w' ?_ h1 su (ht.trans (t1.wide λb hb=>hb.1)) hpk d5 ((hL.set ahX).congr λi=> ?_) U4 af9 S5 KH GM (λp hp=>(Yg p hp).later (aa5.2 ⟨p,hp,rfl⟩) t1) hlr
       ·simp only [aaJ] at hm;omega
       ·simp only [BY,acB];constructor
        ·rintro (h1|h1|h1)
         ·exact .inr (.inl h1)
         ·exact .inl h1
         ·exact .inr (.inr h1)
        ·rintro (h1|h1|h1)
         ·exact .inr (.inl h1)
         ·exact .inl h1
         ·exact .inr (.inr h1)
      cases Po:uA o&&!oT c o with
      |true=>
       simp only [Po,cond_true] at d4;have wB: ∀p∈pd,∀dd,wH ops p.1=some dd->dd∉o.looksAt ops/\o.dst≠some dd:=by intro p hp;obtain ⟨q,hq,GP⟩:=aac p hp;exact IE hq (.inr (P0 rest [x] d4 p.1 (S5 p hp) q hq GP))
       obtain ⟨hex,hwn⟩:=Gh aga a pd (λp hp d hd=>(wB p hp d hd).1);obtain ⟨D,D1,D2,D3,D4⟩:=KQ rest [x] d4 (λy hy dG=>absurd (by simpa using hy) dG);have r9: ∀j oj,ops[j]? =some oj->j∉D->j≠x->listed.getD j true=false->o.apart ops oj=true/\(oL c o=true->still c o=false->xV c o ops j=true):=by
        intro j oj hoj hjD hjx adI;have ak7:j<ops.size:=(acH.1 hoj).1;have hjr:j∈rest:=by
         rcases U4 j ak7 with h1|h1
         ·rcases BY.1 h1 with h1|h1
          ·exact absurd h1 hjx
          ·exact absurd (by simp [h1]) ((hL.DF ak7).1 adI)
         ·exact h1
        obtain ⟨p,hp1,R5,hp3⟩:=D4 j hjr hjD;rw [hoj] at hp1;cases hp1;exact ⟨R5,λhl hs=>by simp [xV,hoj,hp3 hl hs]⟩
       have GQ: ∀d∈D,listed.getD d false=false:=by
        have ao6: ∀p∈pd,p.1∉D:=by intro p hp hpD;obtain ⟨q,hq,GP⟩:=aac p hp;obtain ⟨ed,hed,hb,_⟩:=D3 p.1 q hpD (λhe=>hxp (aa5.2 ⟨p,hp,he⟩)) hq;obtain ⟨_,_,_,_,_,dG⟩:=Bq GP;rw [dG ed hed] at hb;cases hb
        intro d hd;have hdn:d∉pd.map (·.1)++pre:=by
         simp only [acB,not_or];constructor
         ·intro hm;obtain ⟨p,hp,rfl⟩:=aa5.1 hm;exact ao6 p hp hd
         ·rcases D2 d hd with h1|h1
          ·have h1:d=x:=by simpa using h1
           rw [h1];exact af8
          ·exact λhp=>z8 rest (x::pre) d5 d h1 (by simp [hp])
        by_cases LW:d<ops.size
        ·cases hg:listed.getD d false with
         |false=>rfl
         |true=>exact absurd ((hL.done LW).1 hg) hdn
        ·have hl: ¬d<listed.size:=by rw [hL.size];exact LW
         simp [hl]
       cases go with
       |true=>simp only [cond_true] at hK;obtain ⟨v,hv,e2,ei,k1,k2,k3⟩:=(SR (Q:=qi N) hG h' hK).aoI (by simp only [sh] at Po;exact Po.1) (by simp only [sh,abc] at Po;exact Po.2);refine ID D3 hx PY (rest.length-pd.length) listed _ w r9 GQ NG (.inl ⟨by rw [hwn];exact hw,λw' hg=>by rw [hex];exact hv w' hg⟩) h.qe ?_;rw [DG a o.dst v pd (λp hp d hd=>(wB p hp d hd).2)];exact next e2 ei _ w k1 k2 k3
       |false=>simp only [cond_false] at hK;obtain ⟨e2,ei,k1,k2,k3⟩:=ew (v:=undef) (s:= .skip) h' ⟨rfl,trivial⟩ hK;refine ID D3 hx PY (rest.length-pd.length) listed _ w r9 GQ NG (.inr ⟨by rw [hwn];exact hw,rfl⟩) h.qe ?_;rw [DG a o.dst undef pd (λp hp d hd=>(wB p hp d hd).2)];exact next e2 ei _ w k1 (by rw [k3];exact .refl _ _ _) k2
      |false=>
       simp only [Po,cond_false] at d4;have wB: ∀p∈pd,∀dd,wH ops p.1=some dd->dd∉o.looksAt ops/\o.dst≠some dd:=by
        intro p hp;obtain ⟨q,hq,GP⟩:=aac p hp;have:=aaX.1 d4 p.1 (S5 p hp);have hq':ops.toList[p.1]? =some q:=by simpa using hq
        simp only [hq',GP,cond_true,sh] at this;exact IE hq (.inl (Bp this.1))
       refine ⟨λhr0=>(by rw [hr0] at NG;cases NG),λi hi=> ?_⟩;obtain ⟨ao7,oi,hoi,ah0⟩:=mem_ready.1 hi;have ah1:i<ops.size:=(acH.1 hoi).1;have vI:=(hL.DF ah1).1 ao7;simp only [acB,not_or] at vI;by_cases Yl:i=x
       ·subst Yl;rw [hx] at hoi;cases hoi;have tg:wpOp P ops (qi N) i (λa' w'=>(∀oi,xV c oi ops i=true->iq c oi w w')/\ ∃e2 ei,cG c (Z.outs (pd.map (·.2))) e2 ei a' w'/\Trans (Z.outs (pd.map (·.2))).In e.φ w e2.φ w'/\BZ c ops.toList l' ei K=some r) a w:=by
         unfold wpOp;simp only [hx];rw [hw];cases go with
         |true=>
          simp only [cond_true] at hK;simp only [if_true];left;have hd:=SR (Q:=qi N) hG h' hK;cases hgr:YG c o with
          |true=>simp only [YG,agE] at hgr;refine afL ?_ (hd.aoJ hgr);rintro a' w' ⟨hg,e2,ei,k1,k2,k3⟩;exact ⟨λ_ _=>hg.for,e2,ei,k1,k2,k3⟩
          |false=>
           by_cases hme: ∃oi,Ch oi o=true
           ·obtain ⟨oi0,hme⟩:=hme;refine afL ?_ (akA (Q:=qi N) hG h' hK hme);rintro a' w' ⟨hg,e2,ei,k1,k2,k3⟩;refine ⟨λoi hh=> ?_,e2,ei,k1,k2,k3⟩;have hoi:Ch oi o=true:=by simpa [xV,hx,hgr] using hh
            exact S3 hme hoi hg
           ·refine afL ?_ hd.wp;rintro a' w' ⟨e2,ei,k1,k2,k3⟩;exact ⟨λoi hh=>absurd ⟨oi,by simpa [xV,hx,hgr] using hh⟩ hme,e2,ei,k1,k2,k3⟩
         |false=>simp only [cond_false] at hK;simp only [By,if_false];obtain ⟨e2,ei,k1,k2,k3⟩:=ew (v:=undef) (s:= .skip) h' ⟨rfl,trivial⟩ hK;exact ⟨λ_ _=>(eG.refl w).for,e2,ei,k1,by rw [k3];exact .refl _ _ _,k2⟩
        refine wpOp_mono ?_ (U3 hx aga tg pd wB);rintro a' w' ⟨a2,rfl,hg,e2,ei,k1,k2,k3⟩;exact ⟨⟨hg,λb o v hv=>k1.qe b o v (k2.ph b o v hv)⟩,next e2 ei a2 w' k1 k2 k3⟩
       ·have hir:i∈rest:=by
         rcases U4 i ah1 with h1|h1
         ·rcases BY.1 h1 with h1|h1
          ·exact absurd h1 Yl
          ·exact absurd h1 vI.2
         ·exact h1
        have S6:=aaX.1 d4 i hir;have ao9:ops.toList[i]? =some oi:=by simpa using hoi
        simp only [ao9] at S6;cases GP:Pk oi with
        |false=>
         exfalso;simp only [GP,cond_false] at S6;unfold CC at S6;obtain ⟨ed,hed,hb⟩:=agk.1 S6;simp only [sh,wG,agE,abc] at hb;obtain ⟨wj,vH⟩:=hb;have L9:=ah0 ed (by simpa using hed) wj;have Hk:ed.on∉pd.map (·.1)++pre:=by
          rcases vH with vH|⟨vH,hb3⟩
          ·rw [IT vH];exact hun
          ·simp only [acB,not_or];refine ⟨λhm=> ?_,λhp=>z8 rest (x::pre) d5 _ ((b8 _ _).1 vH) (by simp [hp])⟩;obtain ⟨p,hp,he⟩:=aa5.1 hm;obtain ⟨q,hq,hqa⟩:=aac p hp;have hq':ops.toList[ed.on]? =some q:=by rw [<-he];simpa using hq
           simp [ajU,hq',hqa] at hb3
         by_cases vG:ed.on<ops.size
         ·exact Hk ((hL.done vG).1 L9)
         ·have:listed.getD ed.on false=false:=by
           have hl: ¬ed.on<listed.size:=by rw [hL.size];exact vG
           simp [hl]
          rw [this] at L9;cases L9
        |true=>
         obtain ⟨t,d,q1,q2,q3,q4⟩:=Bq GP;have hI: ∃I,c.tv t=some I:=by
          simp only [GP,cond_true,sh,ajT,q1] at S6;cases htv:c.tv t with
          |none=>rw [htv] at S6;exact absurd S6.2 (by simp)
          |some I=>exact ⟨I,rfl⟩
         obtain ⟨I,hI⟩:=hI;obtain ⟨inf,z,hz1,YV,hz3⟩:=CR hI hG.ti;have hg:eG w (w.alloc (.cells z.cells t)):= .alloc w _ _;unfold wpOp;simp only [hoi];have hwn:OF oi (yielded ops (vM ops pd a).tmps)=true:=by simp [OF,q3]
         simp only [hwn,if_true];left;have cC:(execOp (vM ops pd a).eval oi).run P w= .ok (.value (vOf w.heap.size)) (w.alloc (.cells z.cells t)):=by simp [execOp,q1,Instr.alloc,zeroValue,typeInfo,hz1,YV,newVar,newRow,newObj,Sem.run,vOf]
         unfold afK;rw [cC];simp only [afQ];refine ⟨⟨λ_ _=>hg.for,(h.grow hg).qe⟩,?_⟩;have wu:w.heap.size<(w.alloc (.cells z.cells t)).heap.size:=by simp
         have apa: ∀p∈pd,p.2<w.heap.size:=λp hp=>by obtain ⟨_,_,_,_,_,_,_,_,_,_,_,k6,_⟩:=(Yg p hp).row;exact bZ k6
         have ahZ:(vM ops pd a).put oi.dst (vOf w.heap.size)=vM ops ((i,w.heap.size)::pd) a:=by simp [vM,wH,hoi]
         rw [ahZ];have dK:pd.length<rest.length:=by
          have h1:(i::pd.map (·.1)).length<=rest.length:=by
           refine Fi (ade.2 ⟨vI.1,KH⟩) ?_;intro j hj;rcases BY.1 hj with rfl|hj
           ·exact hir
           ·obtain ⟨p,hp,rfl⟩:=aa5.1 hj;exact S5 p hp
          simp only [aaJ,afq] at h1;omega
         have Cn:rest.length-pd.length=(x::rest).length-((i,w.heap.size)::pd).length:=by simp only [aaJ];omega
         rw [Cn];refine ihm (x::rest) pre ((i,w.heap.size)::pd) (o::l') _ e st a _ ?_ (h.narrow hg wu) ?_ (ht.trans (hg.trans (λb hb=>(h.dm b hb).1) _)) ?_ hd0 ?_ lW aab ?_ ?_ ?_ ?_ ?_
         ·simp only [aaJ] at hm⊢;omega
         ·exact ahY
         ·simp [qy,hox,hpk]
         ·refine (hL.set ah1).congr (λj=> ?_);simp
         ·intro p hp;rcases BY.1 hp with rfl|hp
          ·exact List.mem_cons_of_mem _ hir
          ·exact H8 p hp
         ·exact ade.2 ⟨vI.1,KH⟩
         ·refine ade.2 ⟨λhm=> ?_,GM⟩;obtain ⟨p,hp,he⟩:=aa5.1 hm;have:=apa p hp;have he:p.2=w.heap.size:=he;omega
         ·intro p hp;rcases BY.1 hp with rfl|hp
          ·refine ⟨⟨oi,t,I,d,z.cells,t,hoi,GP,q1,hI,q2,nK w _,hz3⟩,λoff=> ?_,(h.dm _ (aaa _)).1⟩;cases hp:e.φ w.heap.size off with
           |none=>rfl
           |some v=>have:=aaK w _ (h.qe _ _ _ hp);simp at this
          ·obtain ⟨⟨o1,t1,I1,d1,apb,T1,k1,k2,k3,k4,k5,k6,k7⟩,q5,q6⟩:=Yg p hp;exact ⟨⟨o1,t1,I1,d1,apb,T1,k1,k2,k3,k4,k5,by rw [hg.Bg _ (bZ k6)];exact k6,k7⟩,q5,q6⟩
         ·simp only [aaJ];omega
theorem P2 (hG:Good P c){ops:Array Oper}{l:List Oper}{ord:List Nat}(hd:CD c ops ord=true)(hp:qy ops.toList ord=some l){Z:cb}{e:Env}{st:St}{a:Act}{w:World}{R:Type}{K:St->Option R}{r:R}(h:cG c Z e st a w)(hK:BZ c ops.toList l st K=some r): wpAny P .any ops (qi λa' w'=>Out c Z K r e.φ w a' w') ops.size (IS ops.size false) a {w with drawn:=w.drawn+1}:=by
 simp only [CD,sh] at hd;obtain ⟨⟨⟨hns,hl0⟩,lW⟩,hd⟩:=hd;have PY: ∀(j:Nat) (o:Oper) cs b,ops[j]? =some o->o.op≠ .select cs b:=by intro j o cs b ho he;have:=aaX.1 hns o (ag5 (by simpa using ho:ops.toList[j]? =some o));simp [he] at this
 have agb:eG w {w with drawn:=w.drawn+1}:=⟨aaa _,λ_ _=>rfl,rfl,rfl,rfl,λ_=>rfl⟩
 ·refine Z7 (c:=c) (φ:=e.φ) _ _ _ _ ?_;have hlen:ord.length=ops.size:=by have:=IT hl0;simpa using this
  rw [<-hlen];have h0:cG c (Z.outs []) e st a {w with drawn:=w.drawn+1}:=(h.grow agb).Gg (λb hb=>⟨hb,by simp⟩) (λb hb=>⟨hb,by simp⟩) rfl rfl rfl rfl;refine adN hG PY (λa' w' h=>h) (2 *ord.length) ord [] [] l _ e st a _ (by simp) h0 hK (agb.trans h.dm e.φ) hp hd ⟨by simp [hlen],λi hi=> ?_⟩ (λi hi=> .inr ((b8 _ _).1 (aaX.1 lW i (by simpa using hi)))) (by simp) (by simp) (by simp) (by simp) (by simp) (by simp);simp [hlen,hi]
end
end Dn
/-
  What is asked of slices.DeleteFunc, and of the function that it is handed. Conditions: none.
-/
namespace Dn
open Go
theorem Gi {S:Type}{step:S->MV->Option (Bool×S)}: ∀{xs zs:List MV}{s:S},nr step s (xs++zs)=(match nr step s xs with|some (ys,s1)=>(match nr step s1 zs with|some (us,s2)=>some (ys++us,s2)|none=>none)|none=>none):=by
 intro xs;induction xs with
 |nil=>intro zs s;simp only [ae4,nr];cases nr step s zs<;>rfl
 |cons x xs ih=>
  intro zs s;simp only [aeD,nr];cases step s x with
  |none=>rfl
  |some p=>
   obtain ⟨b,s1⟩:=p;simp only [ih];cases nr step s1 xs with
   |none=>rfl
   |some q=>
    obtain ⟨ys,s2⟩:=q;dsimp only;cases nr step s2 zs with
    |none=>rfl
    |some q2=>cases b<;>rfl
theorem U5 {S:Type}{step:S->MV->Option (Bool×S)}{xs:List MV} {s s':S}{ys:List MV}(h:nr step s xs=some (ys,s')){k:Nat}(hk:k<xs.length): ∃yk sk b sk',nr step s (xs.take k)=some (yk,sk)/\step sk xs[k]=some (b,sk')/\nr step s (xs.take (k+1))=some (bif b then yk else yk++[xs[k]],sk'):=by
 have e:xs=xs.take k++xs[k]::xs.drop (k+1):=by simp
 rw [e,Gi] at h;cases h1:nr step s (xs.take k) with
 |none=>simp [h1] at h
 |some p=>
  obtain ⟨yk,sk⟩:=p;simp only [h1,nr] at h;cases h2:step sk xs[k] with
  |none=>simp [h2] at h
  |some q=>
   obtain ⟨b,sk'⟩:=q;refine ⟨yk,sk,b,sk',rfl,h2,?_⟩;have e2:xs.take (k+1)=xs.take k++[xs[k]]:=by rw [ahp,acD hk];rfl
   rw [e2,Gi,h1];simp only [nr,h2];cases b<;>simp
theorem aad {S:Type}{step:S->MV->Option (Bool×S)}: ∀{xs:List MV} {s s':S}{ys:List MV},nr step s xs=some (ys,s')->ys.length<=xs.length:=by
 intro xs;induction xs with
 |nil=>intro s s' ys h;simp [nr] at h;simp [h.1]
 |cons x xs ih=>
  intro s s' ys h;simp only [nr] at h;cases h1:step s x with
  |none=>simp [h1] at h
  |some p=>
   obtain ⟨b,s1⟩:=p;simp only [h1] at h;cases h2:nr step s1 xs with
   |none=>simp [h2] at h
   |some q=>obtain ⟨zs,s2⟩:=q;simp only [h2,IN,acE] at h;have:=ih h2;rw [<-h.1];cases b<;>simp<;>omega
structure xW (P:Program) (c:Ctx) (g:Nat) (lb:Array Value) {S:Type} (Inv:S->(Nat->Prop)->Ph->World->Prop) (step:S->MV->Option (Bool×S)):Prop where
 call: ∀{s Z φ W v x b s'},Inv s Z φ W->(∀b,W.heap.size<=b->Z b)->Co φ W->gh c.key φ v x->step s x=some (b,s')-> ia P g (#[v]++lb) W λr W'=>r= .bool b/\ ∃φ',Trans Z φ W φ' W'/\Co φ' W'/\Inv s' Z φ' W'
 frame: ∀{s Z φ W W'},Inv s Z φ W->W.heap.size<=W'.heap.size->(∀b,Z b->b<W.heap.size->W'.heap[b]? =W.heap[b]?)->Inv s (λb=>Z b/\b<W.heap.size) φ W'
 mono: ∀{s Z Z' φ W},Inv s Z φ W->(∀b,Z b->Z' b)->Inv s Z' φ W
structure B4 (c:Ctx) (ob:Option Nat) {S:Type} (Inv:S->(Nat->Prop)->Ph->World->Prop) (Z0:Nat->Prop) (φ0:Ph) (w0:World) (s:S) (Z:Nat->Prop) (φ:Ph) (W:World):Prop where
 inv:Inv s Z φ W
 new: ∀b,W.heap.size<=b->Z b
 sub: ∀b,Z b->Z0 b\/w0.heap.size<=b
 qe:Co φ W
 tr:Trans (λb=>(Z0 b\/w0.heap.size<=b)\/ob=some b) φ0 w0 φ W
 free: ∀b off,ob=some b->φ b off=none
structure NH (P:Program) (c:Ctx) (h el:Nat):Prop where
 run: ∀{S:Type} {Inv:S->(Nat->Prop)->Ph->World->Prop} {step:S->MV->Option (Bool×S)} {g:Nat} {lb:Array Value},xW P c g lb Inv step-> ∀{v0:Value} {xs ys:List MV} {w:World} {Z0:Nat->Prop} {φ0:Ph} {s0 s':S},(∀x∈xs,∃ms,x= .agg ms)->dH c (cb.plain λb=>v0.ownBlock=some b) (qg c.key φ0) w v0 ⟨el,false,xs⟩->(∀b,v0.ownBlock=some b-> ¬Z0 b)-> Inv s0 Z0 φ0 w->(∀b,w.heap.size<=b->Z0 b)->Co φ0 w->nr step s0 xs=some (ys,s')-> ia P h #[v0,.func (.func g) #[] lb] w λv W=> ∃Z φ,B4 c v0.ownBlock Inv Z0 φ0 w s' Z φ W/\dH c (cb.plain λb=>v0.ownBlock=some b) (qg c.key φ) W v ⟨el,false,ys⟩/\ ∀b,v.ownBlock=some b->v0.ownBlock=some b
def xX (P:Program)(c:Ctx):Prop:= ∀h,c.M7 h=true->NH P c h (c.sf (c.key h))
end Dn
/-
  Regions with a call of slices.DeleteFunc. Conditions: none.
-/
namespace Dn
open Go
section
variable {P:Program}{c:Ctx}{Z:cb} {Z':Nat->Prop} {e e':Env}{st cO:St}{a:Act} {w w':World}{R:Type}{K:St->Option R}{r:R}{Q:Exit->Act->World->Prop}{o:Oper}{root:Nat}{cs:List aS}{ks:List LK}{ls outs:List MV}{ps:List (Nat×Nat)} {φ':Ph}
theorem WO (h:cG c Z e st a w)(hf:av st.fr root= .box cs)(hm:fT cs=false)(hr:bX st.df root=false)(ht:TC st [] ks cs ls ps)(hZ: ∀b,Z' b↔w.heap.size<=b\/gone e root ps b){X:Nat->Prop}(hXb: ∀t gK,av st.fr t= .box gK-> ¬X (e.B t))(hXf: ∀f o b,aV st.bk f=some o->(e.E f).ownBlock=some b-> ¬X b)(xA:Trans (λb=>Z' b\/X b) e.φ w φ' w')(hi:Co φ' w')(hc:oZ c Z' φ' w' (e.B root) ks outs)(hK:Lu st root ks ps outs K=some r): ∃e' cO,cG c Z e' cO a w'/\e'.φ=φ'/\(∀b,X b-> ¬Z' b->(∀t gK,av cO.fr t= .box gK->e'.B t≠b)/\ ∀f o,aV cO.bk f=some o->(e'.E f).ownBlock≠some b)/\K cO=some r:=by
 unfold Lu at hK;obtain ⟨lu,rest,Bc,g1,hK⟩:=kf hK;cases rest with
 |cons=>simp [gN] at hK
 |nil=>
 simp only [gN,PI] at hK;cases mW:Lt (bK ks) (kK (eZ ps) st.bk)||meets (bK ks) st.cY with
 |true=>simp [mW] at hK
 |false=>
 simp only [mW,cond_false,UR,nL,xH] at hK;obtain ⟨SP,Im⟩:=ag6.1 mW;have SP:=Ij SP;have Im:=Ik Im;obtain ⟨lZ,m3,E,arr,T,z1,dx,hzb,r9,rO,iN,fK⟩:=hc;have oM:lZ=lu/\m3=Bc.bk:=by unfold UO at z1;rw [g1] at z1;simp only [gN,IN,acE] at z1;exact ⟨z1.1.symm,z1.2.symm⟩
 obtain ⟨rfl,rfl⟩:=oM;have eS:=zZ g1;have gp: ∀f o,aV Bc.bk f=some o->f∈bK ks:=λf o ho=>(Dz g1 f o ho).resolve_left (by simp [aV]);have hs:=h.slot root;rw [hf] at hs;have vI: ∀b,Z' b->Z.In b:=by
  intro b hb;rcases (hZ b).1 hb with hb|hb
  ·exact h.dm b hb
  ·exact DA h hf hr ht b hb
 have PL: ∀t gK,av st.fr t= .box gK->t≠root-> ¬Z' (e.B t):=by
  intro t gK Zy dG hz;rcases (hZ _).1 hz with hz|hz|⟨x,g,hp,hz⟩
  ·have:=xQ h Zy;omega
  ·exact h.bb t root gK cs Zy hf dG hz
  ·obtain ⟨o,ho,_⟩:=ht.bk x g hp;exact h.bf t gK g o Zy ho hz
 have hold: ∀f o,aV (kK (eZ ps) st.bk) f=some o->aV st.bk f=some o/\f∉eZ ps:=by
  intro f o ho;rw [Ie] at ho;cases hn:bX (eZ ps) f with
  |true=>simp [hn] at ho
  |false=>simp only [hn,By,if_false] at ho;exact ⟨ho,λhm=>by rw [(b8 _ _).2 hm] at hn;cases hn⟩
 have F9: ∀f o b,aV (kK (eZ ps) st.bk) f=some o->(e.E f).ownBlock=some b-> ¬Z' b:=by
  intro f o b ho hb hz;obtain ⟨CF,hnf⟩:=hold f o ho;rcases (hZ _).1 hz with hz|hz|⟨x,g,hp,hz⟩
  ·have:=xR h CF hb;omega
  ·exact h.bf root cs f o hf CF (by rw [hb,hz])
  ·obtain ⟨o2,dh,_⟩:=ht.bk x g hp;have:=h.ff f g o o2 b CF dh hb hz;subst this;exact hnf (F7.2 ⟨x,hp⟩)
 have ah2: ∀t gK,av st.fr t= .box gK->t≠root-> ¬(Z' (e.B t)\/X (e.B t)):=λt gK h1 h2 h3=>h3.elim (PL t gK h1 h2) (hXb t gK h1);have aae: ∀f o b,aV (kK (eZ ps) st.bk) f=some o->(e.E f).ownBlock=some b-> ¬(Z' b\/X b):=λf o b h1 h2 h3=>h3.elim (F9 f o b h1 h2) (hXf f o b (hold f o h1).1 h2);let E2:Nat->Value:=λf=>if bX (bK ks) f=true then E f else e.E f
 have zJ: ∀f,f∈bK ks->E2 f=E f:=λf hf=>by show (if _ then _ else _)=_;rw [if_pos ((b8 _ _).2 hf)]
 have O2: ∀f,f∉bK ks->E2 f=e.E f:=λf hf=>by show (if _ then _ else _)=_;rw [if_neg (λhq=>hf ((b8 _ _).1 hq))]
 have lX: ∀f o,aV (Bc.bk++kK (eZ ps) st.bk) f=some o->(f∈bK ks/\aV Bc.bk f=some o)\/(f∉bK ks/\aV (kK (eZ ps) st.bk) f=some o):=by
  intro f o ho;rw [LN] at ho;cases hq:aV Bc.bk f with
  |some o2=>simp only [hq,IN] at ho;exact .inl ⟨gp f o2 hq,by rw [ho]⟩
  |none=>simp only [hq] at ho;refine .inr ⟨λhm=> ?_,ho⟩;rw [SP f hm] at ho;cases ho
 let e2:Env:=⟨e.key,φ',E2,e.B,Bc.bk++kK (eZ ps) st.bk⟩
 have vG:lr (λg=>True/\g∉bK ks) (λ_=>True) e e2:=by
  refine ⟨rfl,xA.ph,λ_ _=>rfl,λf o' CF hS=> ?_⟩;rcases lX f o' CF with ⟨h1,_⟩|⟨h1,h2⟩
  ·exact absurd h1 hS.2
  ·exact ⟨o',by rw [h.m];exact (hold f o' h2).1,O2 f h1,rfl⟩
 have Zz:aJ e2 arr.toList lZ:=by
  have ahy:lr (λf=>f∈bK ks) (λ_=>True) ⟨c.key,φ',E,λ_=>e.B root,Bc.bk⟩ ⟨c.key,φ',E2,λ_=>e.B root,Bc.bk++kK (eZ ps) st.bk⟩:=by
   refine ⟨rfl,.refl _,λ_ _=>rfl,λf o' CF hS=> ?_⟩;rcases lX f o' CF with ⟨h1,h2⟩|⟨h1,_⟩
   ·exact ⟨o',h2,zJ f h1,rfl⟩
   ·exact absurd hS h1
  have h1:=rO.on ahy eS;have ahz:lr (λ_=>True) (λ_=>False) ⟨c.key,φ',E2,λ_=>e.B root,Bc.bk++kK (eZ ps) st.bk⟩ e2:=⟨h.key,.refl _,λ_ h=>h.elim,λf o ho _=>⟨o,ho,rfl,rfl⟩⟩
  exact h1.on ahz (λ_ _ _ _=>trivial)
 have hm3:fT lZ=false:=Zz.Ck;have Ny: ∀t,av (cM (nu (bK ks) st.fr) root (.box lZ)) t=if t=root then .box lZ else Dy (bK ks) (av st.fr t):=λt=>by rw [cr,Ig]
 have vK: ∀t ds,av (cM (nu (bK ks) st.fr) root (.box lZ)) t= .box ds-> ∃ds0,av st.fr t= .box ds0:=by
  intro t ds hb;rw [Ny] at hb;by_cases xA:t=root
  ·exact ⟨cs,by rw [xA];exact hf⟩
  ·rw [if_neg xA] at hb;obtain ⟨d0,h1,_⟩:=uU _ hb;exact ⟨d0,h1⟩
 refine ⟨e2,⟨st.df,st.cY,cM (nu (bK ks) st.fr) root (.box lZ),Bc.bk++kK (eZ ps) st.bk⟩,⟨h.defers,h.size,rfl,h.key,?_,?_,?_,?_,?_,?_,?_,hi,λb hb=>h.dm b (acM xA.size hb)⟩,rfl,λb hb hnz=>⟨λt ds Zy he=> ?_,λf o ho he=> ?_⟩,hK⟩;rotate_left 7
 ·obtain ⟨d0,k1⟩:=vK t ds Zy;exact hXb t d0 k1 (by have he:e.B t=b:=he;rw [he];exact hb)
 ·have he:(E2 f).ownBlock=some b:=he;rcases lX f o ho with ⟨k1,k2⟩|⟨k1,k2⟩
  ·rw [zJ f k1] at he;obtain ⟨I,cells,_,_,_,_,q5⟩:=(iN f o k2).1.row;exact hnz (q5 _ he).1
  ·rw [O2 f k1] at he;exact hXf f o b (hold f o k2).1 he hb
 ·show (bg (cM (nu (bK ks) st.fr) root (.box lZ))).Nodup;refine fG ?_;rw [Ih];exact h.nodup
 ·intro t;show cz Z e2 w' t _ (av (cM (nu (bK ks) st.fr) root (.box lZ)) t);rw [Ny];by_cases tj:t=root
  ·subst tj;rw [if_pos rfl];exact ⟨hs.1.mG (by rw [xK hm,xK hm3]),hs.2.dm,⟨_,dx,rfl,Zz⟩,r9⟩
  ·rw [if_neg tj];have eR:=h.slot t;have hnb:=ah2 t;generalize av st.fr t=s at eR hnb;by_cases E8: ∃ds,s= .box ds
   ·obtain ⟨ds,rfl⟩:=E8;rw [PJ];have hz:=hnb ds rfl tj;obtain ⟨o2,h1,h2⟩:=eR.2.obj;refine ⟨eR.1.mG (LM _ _),eR.2.dm,⟨o2,by show w'.heap[e.B t]? =_;rw [xA.heap _ hz (bZ h1)];exact h1,?_⟩,λoff=>by show φ' (e.B t) off=none;rw [xA.free _ off hz];exact eR.2.free off⟩;exact (PK h2).on vG (UT _ (λl _ f _=>trivial))
   ·have ahA:ah e (a.tmps.getD t undef) s:=by cases s<;>simp only [cz] at eR<;>first|exact eR|exact absurd ⟨_,rfl⟩ E8
    have h2:=(ahA.afX (bK ks)).on vG (US _ (ey s));have ZA: ∀ds,Dy (bK ks) s≠ .box ds:=λds hq=>by obtain ⟨d0,h1,_⟩:=uU _ hq;exact E8 ⟨d0,h1⟩
    generalize Dy (bK ks) s=s2 at h2 ZA;cases s2<;>first|exact h2|exact absurd rfl (ZA _)
 ·intro t;show cZ (cM (nu (bK ks) st.fr) root (.box lZ)) (av (cM (nu (bK ks) st.fr) root (.box lZ)) t);have Zl: ∀q,dv (av st.fr q)=true->dv (av (cM (nu (bK ks) st.fr) root (.box lZ)) q)=true:=by
   intro q hq;rw [Ny];by_cases hqr:q=root
   ·rw [if_pos hqr];rfl
   ·rw [if_neg hqr];exact Il _ hq
  rw [Ny];by_cases tj:t=root
  ·rw [if_pos tj];trivial
  ·rw [if_neg tj];refine F8 _ ?_;have qz:=h.root t;generalize av st.fr t=s at qz;cases s with
   |ptr q o=>exact Zl q qz
   |hp q o i=>exact Zl q qz
   |zN q=>exact Zl q qz
   |_=>trivial
 ·intro f o ho;rcases lX f o ho with ⟨h1,h2⟩|⟨h1,h2⟩
  ·have hfm:=(iN f o h2).1;have CJ:f∉Z.cY:=by rw [<-h.defers.2.2.1];exact Im f h1
   refine dH.to ?_ CJ;obtain ⟨I,cells,q1,q2,q3,q4,q5⟩:=hfm.row;refine ⟨I,cells,q1,q2,?_,?_,λb hb=> ?_⟩
   ·show w'.ownsRow 0 o.ty I.size (E2 f) o.xs.length cells;rw [zJ f h1];exact q3
   ·show bx e.key φ' I.size cells o.xs;rw [h.key];exact q4
   ·have hb:(E2 f).ownBlock=some b:=hb;rw [zJ f h1] at hb;exact ⟨vI b (q5 b hb).1,(q5 b hb).2.1,λhc=>hc.elim⟩
  ·obtain ⟨CF,hnf⟩:=hold f o h2;obtain ⟨I,cells,q1,q2,q3,q4,q5⟩:=(h.jN f o CF).row;refine ⟨I,cells,q1,q2,?_,q4.mono xA.ph,?_⟩
   ·show w'.ownsRow 0 o.ty I.size (E2 f) o.xs.length cells;rw [O2 f h1];refine ⟨q3.1,?_⟩;rcases q3.2 with h6|⟨g,cap,dL,k1,k2,k3,k4⟩
    ·exact .inl h6
    ·refine .inr ⟨g,cap,dL,k1,k2,?_,k4⟩;rw [xA.heap g (aae f o g h2 (by rw [k1];rfl)) (bZ k3)];exact k3
   ·intro bB hb;have hb:(E2 f).ownBlock=some bB:=hb;rw [O2 f h1] at hb;refine ⟨(q5 bB hb).1,λoff u hu=>(q5 bB hb).2.1 off u ?_,λk1 k2 j hj=>xA.ph.Be ((q5 bB hb).2.2 k1 k2 j hj) hj⟩;have hu:φ' bB off=some u:=hu;rw [xA.free _ off (aae f o bB h2 hb)] at hu;exact hu
 ·intro t t' c1 c2 h1 h2 dG;obtain ⟨d1,k1⟩:=vK t c1 h1;obtain ⟨d2,k2⟩:=vK t' c2 h2;exact h.bb t t' d1 d2 k1 k2 dG
 ·intro t c1 f o h1 h2;show (E2 f).ownBlock≠some (e.B t);rcases lX f o h2 with ⟨k1,k2⟩|⟨k1,k2⟩
  ·rw [zJ f k1];by_cases tj:t=root
   ·rw [tj];exact (iN f o k2).2
   ·obtain ⟨d1,k3⟩:=vK t c1 h1;intro hq;obtain ⟨I,cells,_,_,_,_,q5⟩:=(iN f o k2).1.row;exact PL t d1 k3 tj (q5 _ hq).1
  ·rw [O2 f k1];obtain ⟨d1,k3⟩:=vK t c1 h1;exact h.bf t d1 f o k3 (hold f o k2).1
 ·intro f f' o o' k h1 h2 h3 h4;have h3:(E2 f).ownBlock=some k:=h3;have h4:(E2 f').ownBlock=some k:=h4;rcases lX f o h1 with ⟨k1,k2⟩|⟨k1,k2⟩<;>rcases lX f' o' h2 with ⟨k3,k4⟩|⟨k3,k4⟩
  ·rw [zJ f k1] at h3;rw [zJ f' k3] at h4;exact fK f f' o o' k k2 k4 h3 h4
  ·rw [zJ f k1] at h3;rw [O2 f' k3] at h4;obtain ⟨I,cells,_,_,_,_,q5⟩:=(iN f o k2).1.row;exact absurd (q5 _ h3).1 (F9 f' o' k k4 h4)
  ·rw [O2 f k1] at h3;rw [zJ f' k3] at h4;obtain ⟨I,cells,_,_,_,_,q5⟩:=(iN f' o' k4).1.row;exact absurd (q5 _ h4).1 (F9 f o k k2 h3)
  ·rw [O2 f k1] at h3;rw [O2 f' k3] at h4;exact h.ff f f' o o' k (hold f o k2).1 (hold f' o' k4).1 h3 h4
end
end Dn
/-
  A call of slices.DeleteFunc. Conditions: none.
-/
namespace Dn
open Go
section
variable {P:Program}{c:Ctx}{Z:cb} {e e':Env}{st cO:St}{a:Act} {w w':World}{R:Type}{K:St->Option R}{r:R}{Q:Exit->Act->World->Prop}{o:Oper}
theorem ia.imp {P:Program}{f:FuncId}{args:Array Value}{w:World} {R R':Value->World->Prop}(hc:ia P f args w R)(h: ∀v w',R v w'->R' v w'):ia P f args w R':=by
 unfold ia at hc⊢;split
 ·rename_i oM;rw [oM] at hc;exact Calls.mono hc (λx Bf ⟨v,e,hr⟩=>⟨v,e,h v Bf hr⟩)
 ·rename_i oM;rw [oM] at hc;exact h _ _ hc
 ·rename_i h1 h2;split at hc
  ·rename_i oM;exact absurd oM (h1 _ _ _)
  ·rename_i oM;exact absurd oM (h2 _ _)
  ·exact hc
theorem Trans.Gg {I J:Nat->Prop} {φ φ':Ph}(h:Trans I φ w φ' w')(hs: ∀b,I b->J b):Trans J φ w φ' w':=⟨h.ph,λb hb=>h.heap b (λhz=>hb (hs b hz)),λb o hb=>h.free b o (λhz=>hb (hs b hz)),h.size,h.rest⟩
theorem P3 {key:Nat->Nat} {φ:Ph}{v:Value}{b:Bool}(h:gh key φ v (.b b)):v= .bool b:=by obtain ⟨_,h⟩:=h;generalize Cj:[v]=l at h;cases h;simpa using Cj
theorem S7 (hS:Sound P c){f:Nat}(hg:c.fe (c.key f)=false){lb:Array Value}{ms:List MV}:xW P c f lb (λ(_:Unit)(_:Nat->Prop) φ (_:World)=>cN c.key φ lb.toList ms) (YH c.g (c.key f) ms):=by
 refine ⟨?_,λh _ _=>h,λh _=>h⟩;intro s Z φ W v x b s' hinv lN kb S8 eR;unfold YH at eR;split at eR
 ·rename_i b' hx;simp only [IN,acE] at eR;obtain ⟨rfl,_⟩:=eR;have gn:fU c (λb=>W.heap.size<=b) φ W (c.key f) (v::lb.toList) (x::ms):=by simp only [fU,hg,By,if_false];exact ⟨v,lb.toList,rfl,S8,hinv⟩
  have:=hS f (x::ms) (.b b') hx φ W (λb=>W.heap.size<=b) _ (λb hb=>hb) gn kb;have e1:(v::lb.toList).toArray= #[v]++lb:=by apply ac4.1;simp
  rw [e1] at this;refine this.imp ?_;rintro v' w' ⟨φ',t1,t2,t3⟩;exact ⟨P3 t3,φ',t1.Gg lN,t2,hinv.mono t1.ph⟩
 ·cases eR
theorem WQ (hS:Sound P c){f pos bB:Nat}{ks:List LK}{ms:List MV}{lb0:List Value}(hg:c.fe (c.key f)=true)(B3:c.sig (c.key f)=some (pos,ks))(fg:pos=ms.length+1): xW P c f (lb0++[aeG (some ⟨bB,0,none⟩)]).toArray (λls Z φ W=>oZ c Z φ W bB ks ls/\cN c.key φ lb0 ms) (Lw c.g (c.key f) ms):=by
 refine ⟨?_,?_,λh hz=>⟨h.1.wide hz,h.2⟩⟩
 ·intro ls Z φ W v x b s' hinv lN kb S8 eR;obtain ⟨uQ,wF⟩:=hinv;unfold Lw at eR;split at eR
  ·rename_i b' outs hx;simp only [IN,acE] at eR;obtain ⟨rfl,rfl⟩:=eR;have hl:=wF.length;have gn:fU c Z φ W (c.key f) (v::(lb0++[aeG (some ⟨bB,0,none⟩)])) (x::(ms++[.cell (.func 0 ls)])):=by
    simp only [fU,hg,if_true];refine .inr (.inr ⟨pos,ks,0,ls,bB,B3,?_,?_,?_,uQ⟩)
    ·rw [fg,aeg,<-hl,aaL (aaa _)];simp
    ·rw [fg,aeg,aaL (aaa _)];simp
    ·rw [fg,List.set_cons_succ,List.set_append_right _ _ (aaa _),Nat.sub_self];exact ⟨v,_,rfl,S8,wF.append ⟨_,[],rfl,⟨rfl,.rp bB 0 [] [] .nil (by simp)⟩,rfl⟩⟩
   have:=hS f _ _ hx φ W Z _ lN gn kb;have e1:(v::(lb0++[aeG (some ⟨bB,0,none⟩)])).toArray= #[v]++(lb0++[aeG (some ⟨bB,0,none⟩)]).toArray:=by apply ac4.1;simp
   rw [e1] at this;refine this.imp ?_;rintro v' w' ⟨φ',t1,t2,z6,pos',ks',apc,V7,Bi,Yb,hc⟩;rw [B3] at Bi;simp only [IN,acE] at Bi;obtain ⟨rfl,rfl⟩:=Bi;have hb:apc=bB:=by rw [fg,aeg,<-hl,aaL (aaa _)] at Yb;simp at Yb;exact Yb.1.symm
   subst hb;exact ⟨P3 z6,φ',t1,t2,hc,wF.mono t1.ph⟩
  ·cases eR
 ·intro ls Z φ W W' hinv wu zX;obtain ⟨⟨cs,m,E,arr,T,k1,k2,k3,k4,k5,k6,k7⟩,wF⟩:=hinv;have dK:=bZ k2;refine ⟨⟨cs,m,E,arr,T,k1,(zX bB k3 dK).trans k2,⟨k3,dK⟩,k4,k5,λf' o' ho=>⟨?_,(k6 f' o' ho).2⟩,k7⟩,wF⟩;obtain ⟨I,cells,q1,q2,q3,q4,q5⟩:=(k6 f' o' ho).1.row;refine ⟨I,cells,q1,q2,⟨q3.1,?_⟩,q4,λb hb=>⟨⟨(q5 b hb).1,Nt q3 hb⟩,(q5 b hb).2⟩⟩;rcases q3.2 with h6|⟨g,cap,dL,r1,r2,r3,r4⟩
  ·exact .inl h6
  ·exact .inr ⟨g,cap,dL,r1,r2,(zX g (q5 g (by rw [r1];rfl)).1 (bZ r3)).trans r3,r4⟩
theorem U6 {xs:List MV}(h:xs.all Sn=true): ∀x∈xs,∃ms,x= .agg ms:=by intro x hx;have:=aaX.1 h x hx;cases x<;>simp [Sn] at this;exact ⟨_,rfl⟩
theorem put_comm {a:Act}{x y:Nat}(h:x≠y)(v u:Value):(a.put (some x) v).put (some y) u=(a.put (some y) u).put (some x) v:=by show ({a with tmps:=(a.tmps.setIfInBounds x v).setIfInBounds y u}:Act)={a with tmps:=(a.tmps.setIfInBounds y u).setIfInBounds x v};rw [agf v u h]
theorem U7 {y d:Nat}{o1 o2:Oper}{h:Nat} {v0 v' fv:Value}{ys:List MV} {φ0:Ph}{w0:World}(hs:cG c Z e st a w)(h1:o1.dst=some y)(h2:o2.dst=some d)(hyd:d≠y)(vI: ∀b,v0.ownBlock=some b->Z.In b)(iN:dH c (cb.plain λb=>v0.ownBlock=some b) (qg c.key e.φ) w v' ⟨c.sf (c.key h),false,ys⟩)(eS: ∀b,v'.ownBlock=some b->v0.ownBlock=some b)(wB: ∀b,v0.ownBlock=some b->(∀t gK,av st.fr t= .box gK->e.B t≠b)/\ ∀f o,aV st.bk f=some o->(e.E f).ownBlock≠some b)(ht:Trans Z φ0 w0 e.φ w)(hK:(lR st (o2.dst.getD 0) ⟨c.sf (c.key h),false,ys⟩ λst=>bY c st o2.dst (.sc (.own (o2.dst.getD 0))) λst=>bY c st o1.dst (.sc .un) K)=some r):Out c Z K r φ0 w0 ((a.put o1.dst fv).put o2.dst v') w:=by
 have CJ:=hs.npf hK;have su:=wA hK;have Cn:dH c Z.nc e w v' ⟨c.sf (c.key h),false,ys⟩:=by obtain ⟨I,cells,g1,g2,g3,g4,g5⟩:=iN.row;refine ⟨I,cells,g1,g2,g3,by rw [hs.key];exact g4,λbB hb=>⟨vI bB (eS bB hb),(g5 bB hb).2.1,λhc=>hc.elim⟩⟩
 have Nq:=hs.SL CJ Cn λb hb=>wB b (eS b hb);obtain ⟨I,cells,g1,g2,g3,g4,g5⟩:=iN.row;have jO:v'.oneCell'=true:=by rcases g3.2 with ⟨rfl,_⟩|⟨g,cap,dL,rfl,_⟩<;>rfl
 obtain ⟨e3,np,q1,q2,q3⟩:=ew (v:=v') (s:= .sc (.own (o2.dst.getD 0))) Nq (.of (Dx jO) trivial) su;obtain ⟨e4,st4,q4,q5,q6⟩:=ew (v:=fv) (s:= .sc .un) q1 (.of (by simp [ah]) trivial) q2;rw [h1,h2] at q4;rw [put_comm hyd] at q4;rw [h1,h2];exact ⟨e4,st4,q4,by rw [q6,q3];exact ht,q5⟩
theorem adR (hS:Sound P c){h f x y d:Nat}{cE:Array Operand}{cl:Call}{o1 o2:Oper}(hd:NH P c h (c.sf (c.key h)))(h1:o1.op= .makeFunc (.func f) #[] cE)(h2:o2.op= .call cl)(r8:cl.callee= .value (.func h))(gn:cl.args.toList=[.tmp x,.tmp y])(hd1:o1.dst=some y)(Ym:o2.dst=some d)(Yj:x≠y)(hyd:d≠y)(hyn:y<c.n)(tg:cG c Z e st a w)(hK:YI c h f cE.toList (.tmp x) o1 o2 st K=some r): o1.wp P a w (λa1 w1=>o2.wp P a1 w1 (Out c Z K r e.φ w) Q) Q:=by
 have alb:(execOp a.eval o1).run P w= .ok (.value (.func (.func f) #[] (cE.map a.eval))) w:=by simp [execOp,h1,Instr.makeFunc]
 unfold afK;rw [alb,adQ];have H2: ∀v:Value,(a.put o1.dst v).eval (.tmp x)=a.eval (.tmp x)/\(a.put o1.dst v).eval (.tmp y)=v:=by
  intro v;rw [hd1];have hy:y<a.tmps.size:=by rw [tg.size];exact hyn
  constructor
  ·show (a.put (some y) v).tmps.getD x undef=a.tmps.getD x undef;rw [Act.zU hy,if_neg Yj]
  ·show (a.put (some y) v).tmps.getD y undef=v;rw [Act.zU hy,if_pos rfl]
 have ah3: ∀v:Value,cl.args.map (a.put o1.dst v).eval= #[a.eval (.tmp x),v]:=by intro v;apply ac4.1;rw [agl,gn];simp [(H2 v).1,(H2 v).2]
 have Ma: ∀v:Value,(execOp (a.put o1.dst v).eval o2).run P w=(callFunc h #[a.eval (.tmp x),v]).run P w:=by intro v;have:=ah3 v;simp [execOp,h2,resolve,r8,this,Act.eval,aeE,invoke]
 unfold YI at hK;cases B3:c.sig (c.key f) with
 |none=>
  simp only [B3] at hK;cases hg:c.fe (c.key f) with
  |true=>simp [hg] at hK
  |false=>
  simp only [hg,cond_false] at hK;obtain ⟨e1,dA,ms,s1,x1,r1,su,jO⟩:=xO tg hK;obtain ⟨e2,ei,xs,G,zW⟩:=th s1 (s1.eval (.tmp x)).1 su;simp only [gF] at zW;obtain ⟨IF,H9⟩:=gl zW;obtain ⟨p,hp,hK4⟩:=qA H9;obtain ⟨ys,u⟩:=p;have wF:cN c.key e1.φ (cE.map a.eval).toList ms:=by have:=jj.one r1 jO;rw [s1.key] at this;simpa using this
  have GQ: ∀b,(a.eval (.tmp x)).ownBlock=some b-> ¬w.heap.size<=b:=by intro b hb;obtain ⟨I,cells,_,_,g3,_⟩:=G.row.row;have:=Nt g3 hb;omega
  have zb:=hd.run (S7 hS hg) (U6 IF) G.row GQ wF (λb hb=>hb) s1.qe hp;refine wD (Ma _) zb ?_;rintro v' w' ⟨Zw,φ',hW,iN,eS⟩;have adS: ∀b,((w.heap.size<=b\/w.heap.size<=b)\/(a.eval (.tmp x)).ownBlock=some b)->Z.In b:=by
   rintro b ((hb|hb)|hb)
   ·exact s1.dm b hb
   ·exact s1.dm b hb
   ·exact G.In b hb
  have hzb: ∀t cs,av ei.fr t= .box cs-> ¬((w.heap.size<=e2.B t\/w.heap.size<=e2.B t)\/(a.eval (.tmp x)).ownBlock=some (e2.B t)):=by
   rintro t cs ht ((hb|hb)|hb)
   ·have:=xQ G.wC ht;omega
   ·have:=xQ G.wC ht;omega
   ·exact G.box t cs ht hb
  have hzf: ∀f o k,aV ei.bk f=some o->(e2.E f).ownBlock=some k-> ¬((w.heap.size<=k\/w.heap.size<=k)\/(a.eval (.tmp x)).ownBlock=some k):=by
   rintro f o k ho hk ((hb|hb)|hb)
   ·have:=xR G.wC ho hk;omega
   ·have:=xR G.wC ho hk;omega
   ·exact G.jN f o k ho hk hb
  have xA:=hW.tr;rw [<-G.φ] at xA;have hs3:=G.wC.called adS hzb hzf xA hW.qe;have tj:Trans Z e.φ w φ' w':=x1.tr.trans (hW.tr.Gg adS);exact U7 (e:={e2 with φ:=φ'}) hs3 hd1 Ym hyd G.In iN eS (λb hb=>⟨λt gK ht he=>G.box t gK ht (by rw [hb,<-he]),λf o ho hk=>G.jN f o b ho hk hb⟩) tj hK4
 |some sg=>
  obtain ⟨pos,ks⟩:=sg;simp only [B3] at hK;obtain ⟨e1,dA,ms,s1,x1,r1,su,jO⟩:=xO tg hK;obtain ⟨e2,ei,xs,G,zW⟩:=th s1 (s1.eval (.tmp x)).1 su;simp only [gF] at zW;obtain ⟨IF,H9⟩:=gl zW;cases IG:cE.toList.getLast? with
  |none=>simp [IG] at H9
  |some y0=>
  simp only [IG] at H9;split at H9;rotate_left
  ·cases H9
  rename_i root SW;split at H9;rotate_left
  ·cases H9
  rename_i cs hf;cases mW:fT cs||bX ei.df root||!je c ks||!acw pos (ms.length+1)||!c.fe (c.key f) with
  |true=>simp [mW] at H9
  |false=>
  simp only [mW,cond_false] at H9;simp only [ag6,Bool.not_eq_false'] at mW;obtain ⟨⟨⟨⟨hm,hr⟩,kI⟩,fg⟩,hg⟩:=mW;have fg:=IT fg;obtain ⟨ls,ps,ht,hK4⟩:=CP H9;obtain ⟨p,hp,hK5⟩:=qA hK4;obtain ⟨ys,outs⟩:=p;have hy0:a.eval y0= .pointer (some ⟨e2.B root,0,none⟩):=by have:=(G.wC.eval y0).1;rw [SW] at this;exact this
  have alc:(cE.map a.eval)=((cE.toList.dropLast.map a.eval)++[aeG (some ⟨e2.B root,0,none⟩)]).toArray:=by
   apply ac4.1;rw [agl];have dG:cE.toList≠[]:=by intro e;rw [e] at IG;simp at IG
   have h3:cE.toList=cE.toList.dropLast++[y0]:=by have h4:=List.dropLast_concat_getLast dG;have h5:=List.getLast?_eq_some_getLast dG;rw [IG] at h5;rw [ahC h5];exact h4.symm
   rw [h3];simp [hy0]
  have wF:cN c.key e2.φ (cE.toList.dropLast.map a.eval) ms:=by have:=jj.one r1 jO;rw [s1.key,<-G.φ] at this;exact this
  have DH:dH c (cb.plain λb=>(a.eval (.tmp x)).ownBlock=some b) (qg c.key e2.φ) w (a.eval (.tmp x)) ⟨c.sf (c.key h),false,xs⟩:=by rw [G.φ];exact G.row
  let Z2:Nat->Prop:=λb=>w.heap.size<=b\/gone e2 root ps b;have hgx: ∀b,(a.eval (.tmp x)).ownBlock=some b-> ¬gone e2 root ps b:=by
   rintro b hb (rfl|⟨q,g,hp,hq⟩)
   ·exact G.box root cs hf hb
   ·obtain ⟨o,ho,_⟩:=ht.bk q g hp;exact G.jN g o b ho hq hb
  have dK: ∀b,(a.eval (.tmp x)).ownBlock=some b->b<w.heap.size:=by intro b hb;obtain ⟨I,cells,_,_,g3,_⟩:=G.row.row;exact Nt g3 hb
  have GQ: ∀b,(a.eval (.tmp x)).ownBlock=some b-> ¬Z2 b:=by
   rintro b hb (h'|h')
   ·have:=dK b hb;omega
   ·exact hgx b hb h'
  have uQ:oZ c Z2 e2.φ w (e2.B root) ks ls:=(Ic G.wC hf hm kI ht).wide λb hb=> .inr hb;have zb:=hd.run (WQ hS hg B3 fg) (U6 IF) DH GQ ⟨uQ,wF⟩ (λb hb=> .inl hb) G.wC.qe hp;rw [<-alc] at zb;refine wD (Ma _) zb ?_;rintro v' w' ⟨Zw,φ',hW,iN,eS⟩;have hZ2: ∀b,Z2 b\/w.heap.size<=b->Z2 b:=λb hb=>hb.elim id .inl;have adS: ∀b,Z2 b->Z.In b:=λb hb=>hb.elim (G.wC.dm b) (DA G.wC hf hr ht b);have xA:Trans (λb=>Z2 b\/(a.eval (.tmp x)).ownBlock=some b) e2.φ w φ' w':=hW.tr.Gg λb hb=>hb.elim (λh=> .inl (hZ2 b h)) .inr;have ah4:oZ c Z2 φ' w' (e2.B root) ks outs:=hW.inv.1.wide λb hb=>hZ2 b (hW.sub b hb);obtain ⟨e3,np,h3,hφ3,hX,hK6⟩:=WO G.wC hf hm hr ht (λb=>Iff.rfl) (X:=λb=>(a.eval (.tmp x)).ownBlock=some b) (λt gK CH hb=>G.box t gK CH hb) (λf o b ho hk hb=>G.jN f o b ho hk hb) xA hW.qe ah4 hK5;have tj:Trans Z e.φ w φ' w':=by have t2:Trans Z e2.φ w φ' w':=xA.Gg λb hb=>hb.elim (adS b) (G.In b);rw [G.φ] at t2;exact x1.tr.trans t2
  subst hφ3;exact U7 h3 hd1 Ym hyd G.In iN eS (λb hb=>hX b hb (GQ b hb)) tj hK6
end
end Dn
/-
  Regions in the order of their text. Conditions: none.
-/
namespace Dn
open Go
section
variable {P:Program}{c:Ctx}{Z:cb}{e:Env}{st:St}{a:Act}{w:World}{R:Type}{K:St->Option R}{r:R}{Q:Exit->Act->World->Prop}{ops:Array Oper}
theorem P4 (hG:Good P c){is:List Nat}{rest:List Nat}: ∀{os:List Oper}{e:Env}{st:St}{a:Act}{w:World},is.map (ops[·]?)=os.map some->cG c Z e st a w->BZ c ops.toList os st K=some r-> ∀{φ0:Ph}{w0:World},Trans Z φ0 w0 e.φ w->(∀a' w',Out c Z K r φ0 w0 a' w'->wpOps P ops Q rest a' w')->wpOps P ops Q (is++rest) a w:=by
 induction is with
 |nil=>
  intro os e st a w hm h hK φ0 w0 ht hQ;cases os with
  |nil=>exact hQ a w ⟨e,st,h,ht,hK⟩
  |cons=>simp at hm
 |cons i is ih=>
  intro os e st a w hm h hK φ0 w0 ht hQ;cases os with
  |nil=>simp at hm
  |cons o os=>simp only [adJ,adj] at hm;simp only [BZ] at hK;rw [aeD,wpOps_cons];refine wpOp_mono ?_ (UU hG hm.1 h hK);rintro a' w' ⟨e2,ei,h1,h2,h3⟩;exact ih hm.2 h1 h3 (ht.trans h2) hQ
structure agc (c:Ctx) (l pre:List Oper) (f:Nat) (cE:List Operand) (h:Nat) (x:Operand) (o1 o2:Oper) (post:List Oper):Prop where
 eq:l=pre++o1::o2::post
 is: ∃(cs:Array Operand) (cl:Call) (x' y d:Nat),cs.toList=cE/\o1.op= .makeFunc (.func f) #[] cs/\o2.op= .call cl/\cl.callee= .value (.func h)/\cl.args.toList=[.tmp x',.tmp y]/\x= .tmp x'/\o1.dst=some y/\o2.dst=some d/\c.M7 h=true/\x'≠y/\d≠y/\y<c.n
theorem S9: ∀{l pre WR:List Oper}{f:Nat}{cE:List Operand}{h:Nat}{x:Operand}{o1 o2:Oper}{post:List Oper},Dk c pre l=some (WR,f,cE,h,x,o1,o2,post)->agc c (pre.reverse++l) WR f cE h x o1 o2 post:=by
 intro l;induction l with
 |nil=>intro pre WR f cE h x o1 o2 post hd;simp [Dk] at hd
 |cons p1 l ih=>
  intro pre WR f cE h x o1 o2 post hd;cases l with
  |nil=>simp [Dk] at hd
  |cons p2 r=>
   have ah5:Dk c (p1::pre) (p2::r)=some (WR,f,cE,h,x,o1,o2,post)->agc c (pre.reverse++p1::p2::r) WR f cE h x o1 o2 post:=by intro hq;have:=ih hq;simpa using this
   unfold Dk at hd;split at hd
   ·rename_i f' first cs cl h1 h2
    split at hd
    ·rename_i h' x' y' d' k1 k2 k3 k4;cases hb:c.M7 h'&&acw y' d'&&!acw x' d'&&!aaH c.n d'&&!acw (p2.dst.getD d') d' with
     |false=>simp only [hb,cond_false] at hd;exact ah5 hd
     |true=>
      simp only [hb,cond_true,IN,acE] at hd;obtain ⟨rfl,rfl,rfl,rfl,rfl,rfl,rfl,rfl⟩:=hd;simp only [sh,abc,gj,decide_eq_true_eq,decide_eq_false_iff_not] at hb;obtain ⟨⟨⟨⟨q1,rfl⟩,q3⟩,q4⟩,q5⟩:=hb;have hf:first= #[]:=by apply ac4.1;simpa using k3
      subst hf;have Ym: ∃d,p2.dst=some d/\d≠y':=by
       cases hp:p2.dst with
       |none=>rw [hp] at q5;simp at q5
       |some d=>rw [hp] at q5;exact ⟨d,rfl,q5⟩
      obtain ⟨d,Ym,hd3⟩:=Ym;refine ⟨rfl,cs,cl,x',y',d,rfl,h1,h2,k1,k2,rfl,k4,Ym,q1,q3,hd3,?_⟩;rcases Nat.lt_or_ge y' c.n with dK|hge
      ·exact dK
      ·have atB:=aeC hge;simp_all
    ·exact ah5 hd
   ·exact ah5 hd
theorem P5: ∀{l:List Oper},HO l=true-> ∀o∈l,o.guard=none:=by
 intro l;induction l with
 |nil=>intro _ o ho;cases ho
 |cons p l ih=>
  intro h o ho;unfold HO at h;cases hg:p.guard with
  |none=>
   rw [hg] at h;rcases BY.1 ho with rfl|ho
   ·exact hg
   ·exact ih h o ho
  |some=>rw [hg] at h;cases h
theorem WS (hG:Good P c)(NI:xX P c)(id:Nat)(ops:Array Oper):PR P c id ops:=by
 intro Z e st a w R K r Q h hK hQ;unfold YJ at hK;split at hK;rotate_left
 ·exact LR (Wv hG id ops) h hK hQ
 rename_i pre f cE hh x o1 o2 post hda;obtain ⟨oM,cs,cl,x',y,d,rfl,k1,k2,k3,k4,rfl,k5,k6,k7,k8,k9,k10⟩:=S9 hda;simp only [List.reverse_nil,ae4] at oM;cases LC:HO ops.toList with
 |false=>simp [LC] at hK
 |true=>
 simp only [LC,cond_true] at hK;obtain ⟨std,hdr,hK⟩:=uT h hK;have hgd:=P5 LC;have LO:o1.guard=none:=hgd o1 (by rw [oM];simp);have S4:o2.guard=none:=hgd o2 (by rw [oM];simp);refine wp_region ?_;have wu:ops.size=pre.length+(post.length+2):=by rw [<-aaf,oM];simp
 have lX: ∀i,ops[i]? =(pre++o1::o2::post)[i]? :=λi=>by rw [<-oM,adq]
 have ah6:c8 ops.size=c8 pre.length++(pre.length::(pre.length+1)::((c8 post.length).map (· +(pre.length+2)))):=by rw [wu,List.range_add];congr 1;rw [show post.length+2=2+post.length by omega,List.range_add];simp [List.range_succ];intros;omega
 rw [ah6];refine P4 hG (os:=pre) ?_ hdr hK (.refl _ _ _) ?_
 ·apply af7;intro i;simp only [agd];by_cases hi:i<pre.length
  ·rw [ahc hi];simp only [adX,lX,List.getElem?_append_left hi];rw [acD hi];rfl
  ·rw [adv (by simp;omega),adv (by omega)];rfl
 ·rintro a1 w1 ⟨e1,dA,s1,t1,su⟩;have hw:=adR hG.fn (NI hh k7) k1 k2 k3 k4 k5 k6 k8 k9 k10 s1 su (P:=P) (Q:=Q);have uX:ops[pre.length]? =some o1:=by rw [lX];simp
  have Yh:ops[pre.length+1]? =some o2:=by rw [lX,aaL (by omega)];simp
  rw [wpOps_cons];unfold wpOp;simp only [uX,OF,LO,if_true];left;refine afL ?_ hw;intro a2 w2 hw2;rw [wpOps_cons];unfold wpOp;simp only [Yh,OF,S4,if_true];left;refine afL ?_ hw2;rintro a3 w3 ⟨e3,np,s3,t3,H9⟩;rw [<-ahE ((c8 post.length).map (· +(pre.length+2)))];refine P4 hG (os:=post) ?_ s3 H9 (t1.trans t3) ?_
  ·apply af7;intro i;simp only [agd,ahq];by_cases hi:i<post.length
   ·rw [ahc hi];simp only [adX,Function.comp,lX];rw [aaL (by omega),show i+(pre.length+2)-pre.length=i+2 by omega];simp [acD hi]
   ·rw [adv (by simp;omega),adv (by omega)];rfl
  ·intro a' w' ho;exact hQ a' w' ho
end
end Dn
/-
  Open order with two operations that may be done either way round. Conditions: none.
-/
namespace Dn
open Go
section
variable {P:Program}{ops:Array Oper}{Q:Exit->Act->World->Prop}
theorem Mb (A B:Nat):(KG ops A B).size=ops.size:=by simp [KG]
theorem IH (A B i:Nat):(KG ops A B)[i]? =(ops[i]?).map λo=>if B=i then {o with after:=o.after.push ⟨A,.data⟩} else o:=by
 unfold KG;rw [agF];by_cases h:B=i
 ·simp [h]
 ·cases ops[i]? <;>simp [h]
theorem NJ (A B:Nat)(tmps:Array Value):yielded (KG ops A B) tmps=yielded ops tmps:=by
 funext j;unfold yielded;rw [IH];cases ops[j]? with
 |none=>rfl
 |some o=>
  have e:(if B=j then {o with after:=o.after.push ⟨A,.data⟩} else o).dst=o.dst:=by split<;>rfl
  simp only [adX,Option.bind_some,e]
theorem WT {A B i:Nat}{K:Act->World->Prop}{a:Act}{w:World}(h:wpOp P (KG ops A B) Q i K a w):wpOp P ops Q i K a w:=by
 unfold wpOp at h⊢;rw [IH,NJ] at h;cases hi:ops[i]? with
 |none=>rw [hi] at h;exact h
 |some o=>
  rw [hi] at h;simp only [adX] at h;by_cases hb:B=i
  ·rw [if_pos hb] at h;exact h
  ·rw [if_neg hb] at h;exact h
theorem Ta {A B i:Nat}{listed:Array Bool}:i∈AT .any (KG ops A B) listed↔i∈AT .any ops listed/\(i=B->listed.getD A false=true):=by
 unfold AT;rw [Mb];simp only [List.mem_filter,List.mem_range,IH];cases hi:ops[i]? with
 |none=>simp
 |some o=>
  by_cases hb:B=i
  ·subst hb;simp [Array.all_push,adC];constructor
   ·rintro ⟨h1,h2,h3,h4⟩;exact ⟨⟨h1,h2,h3⟩,h4⟩
   ·rintro ⟨⟨h1,h2,h3⟩,h4⟩;exact ⟨h1,h2,h3,h4⟩
  ·have E0: ¬i=B:=λe=>hb e.symm;simp [hb,E0]
def Ahd (A B:Nat):Bool->List Nat->Prop
 |_,[]=>True
 |la,i::r=>(i=B->la=true)/\Ahd A B (la||decide (i=A)) r
theorem II (A B:Nat): ∀L,Ahd A B true L
 |[]=>trivial
 |i::r=>⟨λ_=>rfl,by simpa using II A B r⟩
theorem aag {A B:Nat}(h:A≠B): ∀L,Ahd A B false L\/Ahd B A false L
 |[]=> .inl trivial
 |i::r=>by
  by_cases ha:i=A
  ·subst ha;exact .inl ⟨λe=>absurd e h,by simpa using II i B r⟩
  ·by_cases hb:i=B
   ·subst hb;exact .inr ⟨λe=>absurd e ha,by simpa using II i A r⟩
   ·rcases aag h r with h1|h1
    ·exact .inl ⟨λe=>absurd e hb,by simpa [ha] using h1⟩
    ·exact .inr ⟨λe=>absurd e ha,by simpa [hb] using h1⟩
def sa (ops:Array Oper):List (Nat×Nat)->Array Oper
 |[]=>ops
 |p::E=>KG (sa ops E) p.1 p.2
theorem CS: ∀E,(sa ops E).size=ops.size
 |[]=>rfl
 |p::E=>by rw [sa,Mb,CS E]
theorem IJ {i:Nat}{K:Act->World->Prop}{a:Act}{w:World}: ∀E,wpOp P (sa ops E) Q i K a w->wpOp P ops Q i K a w
 |[],h=>h
 |_::E,h=>IJ E (WT h)
theorem Aa {i:Nat}{listed:Array Bool}: ∀E,i∈AT .any (sa ops E) listed↔i∈AT .any ops listed/\ ∀p∈E,i=p.2->listed.getD p.1 false=true
 |[]=>by simp [sa]
 |p::E=>by rw [sa,Ta,Aa E,acN];exact ⟨λh=>⟨h.1.1,h.2,h.1.2⟩,λh=>⟨⟨h.1,h.2.2⟩,h.2.1⟩⟩
theorem Tb {E:List (Nat×Nat)}: ∀(fuel t:Nat)(listed:Array Bool)(a:Act)(w:World),(∀p∈E,p.1<listed.size)->wpAny P .any (sa ops E) Q fuel listed a w-> (∀p∈E,Ahd p.1 p.2 (listed.getD p.1 false) (aaj .any ops fuel t listed []))->wpOps P ops Q (aaj .any ops fuel t listed []) a w:=by
 intro fuel;induction fuel with
 |zero=>intro t listed a w _ h _;simpa [aaj,wpOps] using h.2
 |succ fuel ih=>
  intro t listed a w hs h hA;obtain ⟨h₀,h₁⟩:=h;simp only [aaj] at hA⊢;change wpOps P ops Q (match (AT .any ops listed)[t%(AT .any ops listed).length]? with
   |some i=>aaj .any ops fuel (t/(AT .any ops listed).length) (listed.setIfInBounds i true) [i]
   |none=>[].reverse) a w
  change∀p∈E,Ahd p.1 p.2 (listed.getD p.1 false) (match (AT .any ops listed)[t%(AT .any ops listed).length]? with
   |some i=>aaj .any ops fuel (t/(AT .any ops listed).length) (listed.setIfInBounds i true) [i]
   |none=>[].reverse) at hA
  cases hi:(AT .any ops listed)[t%(AT .any ops listed).length]? with
  |none=>
   have ahs:AT .any ops listed=[]:=by
    cases hr:AT .any ops listed with
    |nil=>rfl
    |cons x xs=>rw [hr] at hi;have dK:t%(x::xs).length<(x::xs).length:=Nat.mod_lt _ (by simp);simp at hi;simp at dK;omega
   have ald:AT .any (sa ops E) listed=[]:=by
    cases hr:AT .any (sa ops E) listed with
    |nil=>rfl
    |cons x xs=>
     have:x∈AT .any (sa ops E) listed:=by rw [hr];simp
     have:=((Aa E).1 this).1;rw [ahs] at this;cases this
   simpa [wpOps] using h₀ ald
  |some i=>
   rw [hi] at hA;simp only [] at hA⊢;rw [linearise_go_acc,List.reverse_singleton,List.singleton_append] at hA⊢;rw [wpOps_cons];have vN:=(Aa E).2 ⟨ag5 hi,λp hp=>(hA p hp).1⟩;refine wpOp_mono (λa w hw=>ih _ _ a w (λp hp=>by simpa using hs p hp) hw λp hp=> ?_) (IJ E (h₁ i vN));have hg:(listed.setIfInBounds i true).getD p.1 false=(listed.getD p.1 false||decide (i=p.1)):=by
    rw [adz,adz,Array.getElem?_setIfInBounds];by_cases hia:i=p.1
    ·subst hia;simp [hs p hp]
    ·simp [hia]
   rw [hg];exact (hA p hp).2
theorem P6 {c:Ctx}(hG:Good P c)(P7:P.follows .mixedOrders=true)(NI:xX P c):UX P c:=by
 refine ⟨λid ops=>WS hG NI id ops,?_,?_⟩
 ·intro id ops l hd hp Z e st a w R K r Q h hK hQ;refine agy ?_ (wp_region_any P7 (P2 hG hd hp h hK));intro x a' w' hx;cases x<;>first|exact hQ a' w' hx|exact hx.elim
 ·intro id ops k l Z e st a w R K r Q h hK hQ;refine agy (Q:=qi λa' w'=>Out c Z K r e.φ w a' w') ?_ (wp_region_draw λt=> ?_)
  ·intro x a' w' hx;cases x<;>first|exact hQ a' w' hx|exact hx.elim
  simp only [Region.schedule,P7,Bool.true_or,if_true];have leaf: ∀(E:List (Nat×Nat)) (l:List Nat),(∀p∈E,p.1<ops.size)->UB c (sa ops E) l st K=some r->(∀p∈E,Ahd p.1 p.2 false (aaj .any ops ops.size t (IS ops.size false) []))-> wpOps P ops (qi λa' w'=>Out c Z K r e.φ w a' w') (aaj .any ops ops.size t (IS ops.size false) []) a {w with drawn:=w.drawn+1}:=by
   intro E l hE hK hA;unfold UB at hK;cases hd:CD c (sa ops E) l with
   |false=>simp [hd] at hK
   |true=>
    simp only [hd,cond_true] at hK;split at hK
    ·rename_i l1 hp;have w1:=P2 hG hd hp h hK;rw [CS] at w1;exact Tb ops.size t _ a _ (by simpa using hE) w1 (λp hp=>by simpa [hE p hp] using hA p hp)
    ·cases hK
  have key: ∀(k:Nat) (E:List (Nat×Nat)) (l:List Nat),(∀p∈E,p.1<ops.size)->Pl c st K k (sa ops E) l=some r->(∀p∈E,Ahd p.1 p.2 false (aaj .any ops ops.size t (IS ops.size false) []))-> wpOps P ops (qi λa' w'=>Out c Z K r e.φ w a' w') (aaj .any ops ops.size t (IS ops.size false) []) a {w with drawn:=w.drawn+1}:=by
   intro k;induction k with
   |zero=>intro E l _ hK;cases hK
   |succ k ih=>
    intro E l hE hK hA;simp only [Pl] at hK;cases hb:acw l.length (sa ops E).toList.length with
    |true=>simp only [hb,cond_true] at hK;exact leaf E l hE hK hA
    |false=>
     simp only [hb,cond_false] at hK;split at hK
     ·rename_i o1 o2 A B ht;obtain ⟨q1,q2,q3⟩:=SZ ht;have wu:(sa ops E).toList.length=ops.size:=by rw [aaf,CS]
      rw [wu] at q2 q3;obtain ⟨k1,k2⟩:=Wx hK;rcases aag q1 (aaj .any ops ops.size t (IS ops.size false) []) with ho|ho
      ·exact leaf ((A,B)::E) o1 (acN.2 ⟨q2,hE⟩) k1 (acN.2 ⟨ho,hA⟩)
      ·exact ih ((B,A)::E) o2 (acN.2 ⟨q3,hE⟩) k2 (acN.2 ⟨ho,hA⟩)
     ·cases hK
  exact key k [] l (by simp) hK (by simp)
end
end Dn
/-
  Functions of the library, by hand: copies of slices. Conditions: none.
-/
namespace Dn
open Go
section
variable {P:Program}{c:Ctx}{Q:Exit->Act->World->Prop}{ops:Array Oper}{o:Oper}{a:Act} {w w':World}
theorem vO {i:Nat}{rest:List Nat}{v:Value}(hi:ops[i]? =some o)(hg:o.guard=none)(cC:(execOp a.eval o).run P w= .ok (.value v) w')(h:wpOps P ops Q rest (a.put o.dst v) w'):wpOps P ops Q (i::rest) a w:=by rw [wpOps_cons];unfold wpOp;simp only [hi,OF,hg,if_true];left;unfold afK;rw [cC,adQ];exact h
structure ba (o:Oper) (d:Nat) (op:Op):Prop where
 dst:o.dst=some d
 op:o.op=op
 guard:o.guard=none
theorem ah7 {key:Nat->Nat} {φ:Ph}{size:Nat}{v:Value}{xs:List MV}(kb:Co φ w)(fg:0<size)(hx:nn key φ [v] (.list xs))(hw:qa size xs=true): ∃news,Src (qg key φ) w size v xs news:=by
 generalize hv:[v]=vs at hx;cases hx with
 |list ad cap _ bB off OZ f g1 g2 g3 g4 g5=>
 simp at hv;have hes: ∀i,i<xs.length->(f i).length=size:=by intro i hi;rw [(g5 i hi).width];exact Dv hw _ (agm hi)
 obtain ⟨cs,h1,h2⟩:=H6 hes g5;refine ⟨cs,h1,ad,cap,hv,?_,?_⟩
 ·intro hn;cases xs with
  |nil=>rfl
  |cons y ys=>have:=g2 (by simp);rw [hn] at this;cases this
 ·intro x hx j u hj;have KA:j<cs.length:=(acJ.1 hj).1;rw [h1.length] at KA;have H7:0<xs.length:=by
   cases xs with
   |nil=>simp at KA
   |cons y ys=>simp
  have PA:=g2 H7;rw [hx] at PA;cases PA;have hq:j/size<xs.length:=(Nat.div_lt_iff_lt_mul fg).2 KA;have hm:=Nat.mod_lt j fg;have Kz:j=j/size *size+j%size:=by rw [Nat.mul_comm];exact (Nat.div_add_mod j size).symm
  have e1:=h2 (j/size) (j%size) hq hm;rw [<-Kz,hj] at e1;have Zg:OZ=size:=by rw [<-g3 0 H7,hes 0 H7]
  have e2:=g4 (j/size) (j%size) hq (by rw [Zg];exact hm);rw [<-e1,Zg,Nat.add_assoc,<-Kz] at e2;have:=kb _ _ _ e2;rw [adb];exact this
theorem WU {t t':TypeId}{el:TypeId}{x:Operand}{ad:Option Addr}{n cap:Nat}(hu:P.underlying t=some (.slice el))(ho:o.op= .binOp .eql t x (.const (.slice none 0 0)) t')(hx:a.eval x= .slice ad n cap): (execOp a.eval o).run P w= .ok (.value (.bool ad.isNone)) w:=by
 have he:a.eval (.const (.slice none 0 0))= .slice none 0 0:=rfl;have oM: ∀d:Nat,(Op.equalIn (d+1) t (.slice ad n cap) (.slice none 0 0)).run P w= .ok ad.isNone w:=by intro d;cases ad<;>simp [Op.equalIn,run_underlying hu]
 have hb:agr .eql t (.slice ad n cap) (.slice none 0 0)=(do pure (.bool (<-Op.equal t (.slice ad n cap) (.slice none 0 0)))):=rfl;have hg: ∀(x y:Operand),(eqGuard .eql t x y (.slice ad n cap) (.slice none 0 0)).run P w= .ok () w:=λ_ _=>rfl;have h2:(Op.equal t (.slice ad n cap) (.slice none 0 0)).run P w= .ok ad.isNone w:=oM 9999;unfold execOp;simp only [ho];rw [hx,he];simp [hg,hb,h2]
theorem DI {f:FuncId}{fn:Func}{t:TypeId}{I E:TI}{i0 i1 i2 i3:Nat}{oA oB oC oD oE oF oG oH:Oper}{xs:List MV}(hT:lV P c.ti)(hI:c.tv t=some I)(hL:I.Dd=true)(hE:c.tv I.elem=some E)(wj:1<=E.bytes)(Fj:c.sf (c.key f)=I.elem)(hg:c.fe (c.key f)=false)
 (hf:P.funcs[f]? =some fn) (DC:(fn.name== "runtime.NumGoroutine")=false) (hn:fn.ntmps=8) (hr:fn.results= #[.tmp 2])
 (qT:fn.body=some (.seq (.region i0 #[oA] false) (.seq (.seq (.region i1 #[oB,oC] false) (.cond (.tmp 4) (.seq (.region i2 #[oD] false) .ret) .skip)) (.seq (.region i3 #[oE,oF,oG,oH] false) .ret))))
 (hA:ba oA 2 (.assign (.const (.slice none 0 0)))) (hB:ba oB 3 (.move (.tmp 0))) (hC:ba oC 4 (.binOp .eql t (.tmp 3) (.const (.slice none 0 0)) t)) (hD:ba oD 2 (.assign (.const (.slice none 0 0))))
 (hEo:ba oE 5 (.buildSlice t 0 #[])) (hF:ba oF 6 (.move (.tmp 0))) (hG:ba oG 7 (.call {callee:= .builtin .append,args:= #[.tmp 5,.tmp 6],argTypes:= #[t,t]})) (hH:ba oH 2 (.assign (.tmp 7)))
 (hw:qa E.size xs=true) (oN:xs.length *E.bytes<=2^46):lY P c f [.list xs] (.fresh xs):=by
 obtain ⟨hIt,Y1⟩:=cc hI;obtain ⟨oR,rP⟩:=cc hE;obtain ⟨hu,E2,zJ,_,fg⟩:=TI.nZ (hT t I hIt) hL;rw [oR] at zJ;cases zJ;intro φ W Z vs hz gn kb;simp only [fU,hg,By,if_false] at gn;obtain ⟨v,u,rfl,⟨_,hx⟩,hu0⟩:=gn;have hu0:u=[]:=hu0;subst hu0;obtain ⟨ad,cap,hv,E7,hnn⟩: ∃ad cap,v= .slice ad xs.length cap/\xs.length<=cap/\(0<xs.length->ad≠none):=by
  have Yd:=hx;generalize Cj:[v]=vs at Yd;cases Yd with
  |list ad cap _ bB off OZ f g1 g2 g3 g4 g5=>exact ⟨ad,cap,by simpa using Cj,g1,λh0 hn=>by rw [g2 h0] at hn;cases hn⟩
 have cC:(callFunc f [v].toArray).run P W= .ok (.enter f #[v]) W:=by
  have GM: ¬fn.name= "runtime.NumGoroutine" :=by simpa using DC
  simp [callFunc,hf,GM,qT]
 unfold ia;rw [cC];refine calls_of_wp hf qT ?_;rw [hn];have ha0:({tmps:= #[v]++IS (8-(#[v]:Array Value).size) undef,defers:=[]}:Act)={tmps:= #[v,undef,undef,undef,undef,undef,undef,undef],defers:=[]}:=rfl;rw [ha0];have apf:c8 (#[oA]:Array Oper).size=[0]:=rfl;have apg:c8 (#[oB,oC]:Array Oper).size=[0,1]:=rfl;have aph:c8 (#[oE,oF,oG,oH]:Array Oper).size=[0,1,2,3]:=rfl;have api:c8 (#[oD]:Array Oper).size=[0]:=rfl;have fin: ∀(a:Act) (W':World) (v':Value) (cells:List Value),a.defers=[]->a.tmps.getD 2 undef=v'->(∃φ',Trans Z φ W φ' W'/\Co φ' W'/\ng c Z φ' W' (c.key f) v' (.fresh xs))-> bodyPost P fn (λx Bf=> ∃v,x= .returned v/\ ∃φ',Trans Z φ W φ' Bf/\Co φ' Bf/\ng c Z φ' Bf (c.key f) v (.fresh xs)) .ret a W':=by
  intro a W' v' cells hd h2 h3;refine ⟨hd,v',?_,v',rfl,h3⟩;have Pu:a.tmps[2]?.getD undef=v':=by simpa using h2
  simp [results,hr,Pu]
 refine wp_seq (wp_region ?_);rw [apf];refine vO (o:=oA) rfl hA.guard (v:= .slice none 0 0) (w':=W) (by simp [execOp,hA.op];rfl) ?_;rw [hA.dst];refine wp_seq (wp_seq (wp_region ?_));rw [apg];refine vO (o:=oB) rfl hB.guard (v:=v) (w':=W) (by simp [execOp,hB.op];rfl) ?_;rw [hB.dst];refine vO (o:=oC) rfl hC.guard (v:= .bool ad.isNone) (w':=W) (WU hu hC.op (by rw [<-hv];rfl)) ?_;rw [hC.dst];refine wp_cond (t:=ad.isNone) rfl ?_;cases PA:ad.isNone with
 |true=>
  have PA:ad=none:=by simpa using PA
  have hxs:xs=[]:=by
   cases xs with
   |nil=>rfl
   |cons y ys=>exact absurd PA (hnn (by simp))
  simp only [if_true];refine wp_seq (wp_region ?_);rw [api];refine vO (o:=oD) rfl hD.guard (v:= .slice none 0 0) (w':=W) (by simp [execOp,hD.op];rfl) ?_;rw [hD.dst];refine wp_ret ?_;refine fin _ W (.slice none 0 0) [] rfl rfl ⟨φ,.refl _ _ _,kb,?_⟩;show dH c (cb.plain Z) (qg c.key φ) W _ ⟨c.sf (c.key f),false,xs⟩;rw [Fj,hxs];exact ⟨E,[],oR,rP,⟨by simp,.inl ⟨rfl,rfl⟩⟩,rfl,λbB hb=>by simp [ac1] at hb⟩
 |false=>
  simp only [By,if_false];refine wp_skip ?_;refine wp_seq (wp_region ?_);rw [aph];have alg:=UN (P:=P) (c:=c) (w:=W) (t:=t) (I:=I) (vs:=[]) (parts:= #[]) hu oR rP fg hT (by simp) (by simp) rfl;simp only [List.length_nil,List.flatMap_nil] at alg;refine vO (o:=oE) rfl hEo.guard (v:= .slice (some ⟨W.heap.size,0,none⟩) 0 0) (w':=W.alloc (.cells #[] I.elem)) (by simp [execOp,hEo.op,alg]) ?_;rw [hEo.dst];refine vO (o:=oF) rfl hF.guard (v:=v) (w':=W.alloc (.cells #[] I.elem)) (by simp [execOp,hF.op];rfl) ?_;rw [hF.dst];obtain ⟨news,B2⟩:=ah7 kb fg hx hw;have LO:eG W (W.alloc (.cells #[] I.elem)):= .alloc W _ _;have alh:Src (qg c.key φ) (W.alloc (.cells #[] I.elem)) E.size v xs news:=by obtain ⟨ad',ahe,q1,q2,q3⟩:=B2.val;exact ⟨B2.els,ad',ahe,q1,q2,λx hx j u hj=>LO.cell (q3 x hx j u hj)⟩
  have eS:(W.alloc (.cells #[] I.elem)).ownsRow 0 I.elem E.size (.slice (some ⟨W.heap.size,0,none⟩) 0 0) 0 []:=⟨by simp,.inr ⟨W.heap.size,0, #[],rfl,acF _,nK W _,aaa _,acF _,by simp,by simp⟩⟩
  obtain ⟨v',W',Ma,wB⟩:=CL (P:=P) (c:=c) (ty:=oG.type) hu oR rP fg hT wj eS (alh.apx hu) (by simpa using oN);refine vO (o:=oG) rfl hG.guard (v:=v') (w':=W') (by
   have e1: ∀(a:Act),a.eval (.tmp 5)= .slice (some ⟨W.heap.size,0,none⟩) 0 0->a.eval (.tmp 6)=v->(execOp a.eval oG).run P (W.alloc (.cells #[] I.elem))= .ok (.value v') W':=by intro a h5 h6;simp [execOp,hG.op,resolve,invoke,builtin,h5,h6,Ma]
   exact e1 _ rfl rfl) ?_
  rw [hG.dst];refine vO (o:=oH) rfl hH.guard (v:=v') (w':=W') (by simp [execOp,hH.op];rfl) ?_;rw [hH.dst];refine wp_ret ?_;refine fin _ W' v' [] rfl rfl ?_;have wu:W.heap.size<=W'.heap.size:=acM LO.size wB.size;have hold: ∀b,b<W.heap.size->W'.heap[b]? =W.heap[b]? :=by intro b hb;rw [wB.Bg b (adY hb LO.size) (by simp [ac1];omega)];exact LO.Bg b hb
  refine ⟨φ,⟨.refl _,λb _ hb=>hold b hb,λ_ _ _=>rfl,wu,LO.rest.trans wB.rest⟩,?_,?_⟩
  ·intro b o u hbo;have h1:=kb b o u hbo;rw [acO (hold b (aaK W _ h1))];exact h1
  ·show dH c (cb.plain Z) (qg c.key φ) W' v' ⟨c.sf (c.key f),false,xs⟩;rw [Fj];refine ⟨E,news,oR,rP,by simpa using wB.own,B2.els,λbB hb=> ?_⟩;have mI:W.heap.size<=bB:=by
    rcases wB.place with h1|h1
    ·rw [h1] at hb;simp [ac1] at hb;omega
    ·rw [h1] at hb;cases hb;exact LO.size
   refine ⟨hz bB mI,λoff u hu=> ?_,λhc=>hc.elim⟩;have:=aaK W _ (kb _ _ _ hu);have:bB<W.heap.size:=this;omega
end
end Dn
/-
  Tables of functions. Conditions: none.
-/
namespace Dn
open Go
structure jY (P:Program) (c:Ctx) (g:Nat->List MV->Option MV):Prop where
 all: ∀f ms r,g (c.key f) ms=some r->lY P c f ms r
abbrev bt (n:Nat)(F:List MV->Option MV)(g:Nat->List MV->Option MV):Nat->List MV->Option MV:=λk ms=>match acw k n with|true=>F ms|false=>g k ms
theorem jY.add {P:Program}{c:Ctx}{g:Nat->List MV->Option MV}{n:Nat}{F:List MV->Option MV}(h:jY P c g)(hF: ∀f ms r,c.key f=n->F ms=some r->lY P c f ms r):jY P c (bt n F g):=by
 refine ⟨λf ms r hr=> ?_⟩;unfold bt at hr;cases hk:acw (c.key f) n with
 |true=>simp only [hk] at hr;exact hF f ms r (IT hk) hr
 |false=>simp only [hk] at hr;exact h.all f ms r hr
structure DJ (c c':Ctx):Prop where
 ti:c'.ti=c.ti
 key:c'.key=c.key
 fe:c'.fe=c.fe
 fresh:c'.fresh=c.fresh
 sf:c'.sf=c.sf
 fk:c'.fk=c.fk
 mt:c'.mt=c.mt
 sig:c'.sig=c.sig
 M7:c'.M7=c.M7
theorem dH.qj {c c':Ctx}(h:c'.ti=c.ti){Z:cb}{e:Env}{w:World}{v:Value}{o:oS}(hs:dH c Z e w v o):dH c' Z e w v o:=by obtain ⟨I,cells,h1,h2⟩:=hs.row;exact ⟨I,cells,by rw [h];exact h1,h2⟩
theorem ng.qj {c c':Ctx}(h:DJ c c'){Z:Nat->Prop} {φ:Ph}{w:World}{k:Nat}{v:Value}{r:MV}(hs:ng c Z φ w k v r):ng c' Z φ w k v r:=by cases r<;>simp only [ng,h.key,h.sf] at hs⊢ <;>first|exact hs|exact hs.qj h.ti
theorem oZ.qj {c c':Ctx}(h:DJ c c'){Z:Nat->Prop} {φ:Ph}{w:World}{bB:Nat}{ks:List LK}{ls:List MV}(hs:oZ c Z φ w bB ks ls):oZ c' Z φ w bB ks ls:=by obtain ⟨cs,m,E,arr,T,h1,h2,h3,h4,h5,h6,h7⟩:=hs;refine ⟨cs,m,E,arr,T,h1,h2,h3,h4,by rw [h.key];exact h5,λf o ho=>⟨?_,(h6 f o ho).2⟩,h7⟩;rw [h.key];exact (h6 f o ho).1.qj h.ti
theorem Cp.qj {c c':Ctx}(h:DJ c c'){Z:Nat->Prop} {φ:Ph}{w:World}{k:Nat}{vs:List Value}{v:Value}{r:MV}(hs:Cp c Z φ w k vs v r):Cp c' Z φ w k vs v r:=by
 cases r<;>simp only [Cp] at hs⊢ <;>first|exact hs.qj h|skip
 obtain ⟨h1,pos,ks,bB,off,h2,h3,h4⟩:=hs;exact ⟨h1.qj h,pos,ks,bB,off,by rw [h.sig];exact h2,h3,h4.qj h⟩
theorem fU.qj {c c':Ctx}(h:DJ c c'){Z:Nat->Prop} {φ:Ph}{w:World}{k:Nat}{vs:List Value}{ms:List MV}(hs:fU c' Z φ w k vs ms):fU c Z φ w k vs ms:=by
 unfold fU at hs⊢;rw [h.fe] at hs;split
 ·rename_i hg;rw [if_pos hg] at hs;rcases hs with ⟨v0,v1,v2,xs,m1,ys,h1,h2,h3,h4,h5,h6⟩|⟨v0,v1,v2,xs,m1,m2,h1,h2,h3,h4,h5,h6⟩|⟨pos,ks,off,ls,bB,h1,h2,h3,h4,h5⟩
  ·rw [h.key,h.sf] at h3 h5;rw [h.key] at h4;exact .inl ⟨v0,v1,v2,xs,m1,ys,h1,h2,h3.qj h.ti.symm,h4,h5.qj h.ti.symm,h6⟩
  ·rw [h.key,h.sf] at h4;rw [h.key] at h5 h6;exact .inr (.inl ⟨v0,v1,v2,xs,m1,m2,h1,h2,h3,h4.qj h.ti.symm,h5,h6⟩)
  ·refine .inr (.inr ⟨pos,ks,off,ls,bB,by rw [<-h.sig];exact h1,h2,h3,by rw [<-h.key];exact h4,?_⟩);obtain ⟨cs,m,E,arr,T,k1,k2,k3,k4,k5,k6,k7⟩:=h5;refine ⟨cs,m,E,arr,T,k1,k2,k3,k4,by rw [<-h.key];exact k5,λf o ho=>⟨?_,(k6 f o ho).2⟩,k7⟩;rw [<-h.key];exact (k6 f o ho).1.qj h.ti.symm
 ·rename_i hg;rw [if_neg hg,h.key] at hs;exact hs
theorem ia.mono {P:Program}{f:FuncId}{args:Array Value}{w:World} {R R':Value->World->Prop}(hc:ia P f args w R)(h: ∀v w',R v w'->R' v w'):ia P f args w R':=by
 unfold ia at hc⊢;split
 ·rename_i oM;rw [oM] at hc;exact Calls.mono hc (λx Bf ⟨v,e,hr⟩=>⟨v,e,h v Bf hr⟩)
 ·rename_i oM;rw [oM] at hc;exact h _ _ hc
 ·rename_i h1 h2;split at hc
  ·rename_i oM;exact absurd oM (h1 _ _ _)
  ·rename_i oM;exact absurd oM (h2 _ _)
  ·exact hc
theorem lY.qj {P:Program} {c c':Ctx}{f:Nat}{ms:List MV}{r:MV}(h:DJ c c')(hs:lY P c f ms r):lY P c' f ms r:=by intro φ w Z vs hz ha hi;rw [h.key] at ha;refine (hs φ w Z vs hz (ha.qj h) hi).mono ?_;rintro v w' ⟨φ',h1,h2,h3⟩;rw [h.key];exact ⟨φ',h1,h2,h3.qj h⟩
theorem DJ.symm {c c':Ctx}(h:DJ c c'):DJ c' c:=⟨h.ti.symm,h.key.symm,h.fe.symm,h.fresh.symm,h.sf.symm,h.fk.symm,h.mt.symm,h.sig.symm,h.M7.symm⟩
theorem xW.qj {P:Program} {c c':Ctx}(h:DJ c c'){g:Nat}{lb:Array Value}{S:Type}{Inv:S->(Nat->Prop)->Ph->World->Prop}{step:S->MV->Option (Bool×S)}(hp:xW P c' g lb Inv step):xW P c g lb Inv step:=⟨λh1 h2 h3 h4 h5=>hp.call h1 h2 h3 (by rw [h.key];exact h4) h5,hp.frame,hp.mono⟩
theorem xX.qj {P:Program} {c c':Ctx}(h:DJ c c')(hd:xX P c):xX P c':=by intro f hf;rw [h.M7] at hf;have hx:=hd f hf;refine ⟨?_⟩;intro S Inv step g lb hp v0 xs ys w Z0 φ0 s0 s' h1 h2 h3 h4 h5 h6 h7;rw [h.key,h.sf] at h2;refine (hx.run (hp.qj h) h1 (h2.qj h.ti.symm) h3 h4 h5 h6 h7).mono ?_;rintro v W ⟨Z,φ,hW,hF,hb⟩;refine ⟨Z,φ,⟨hW.inv,hW.new,hW.sub,hW.qe,hW.tr,hW.free⟩,?_,hb⟩;rw [h.key,h.sf];exact hF.qj h.ti
def Mc (c:Ctx)(n:Nat)(fn:Func)(cE:List (List Kd)):Bool:=
 !(fn.name== "runtime.NumGoroutine")&&acw c.n fn.ntmps&&aaH (fn.params.size+cE.length) fn.ntmps&&!c.fe n
def IK (c:Ctx)(n:Nat)(fn:Func):Option Nat->Bool
 |none=>true
 |some ty=>acw ty (c.sf n)&&(acw fn.results.toList.length 1&&(match c.tv ty with|some _=>true|none=>false))
theorem WV {c:Ctx}{n:Nat}{fn:Func}{fresh:Option Nat}(h:IK c n fn fresh=true): ∀ty,fresh=some ty->ty=c.sf n/\fn.results.toList.length=1/\ ∃I,c.tv ty=some I:=by
 rintro ty rfl;simp only [IK,sh] at h;obtain ⟨h1,h2,h3⟩:=h;refine ⟨IT h1,IT h2,?_⟩;cases hc:c.tv ty with
 |none=>rw [hc] at h3;cases h3
 |some I=>exact ⟨I,rfl⟩
theorem jY.body {P:Program} {c c':Ctx}{g:Nat->List MV->Option MV}{n:Nat}{fn:Func}{cE:List (List Kd)}(h:jY P c g)(hl:DJ c c')(hgg:c'.g=g)(uC:lV P c.ti)(oM:Sw P c.ti)(hfk: ∀t k,c.fk t=some k->P.underlying t=some (.float k))(UW:Fb P c)(P7:P.follows .mixedOrders=true)(NI:xX P c)(hf:P.funcs[n]? =some fn)(hh:Mc c' n fn cE=true)(CO: ∀f,c.key f=f){fresh:Option Nat}(E5:IK c' n fn fresh=true):jY P c (bt n (HQ c' cE fresh fn) g):=by
 have hG:Good P c':=by
  refine ⟨by rw [hl.ti];exact uC,by rw [hl.ti];exact oM,λf ms r hr=> ?_,by rw [hl.fk];exact hfk,λt s hs=>UW t s ?_⟩
  ·rw [hgg,hl.key] at hr;exact (h.all f ms r hr).qj hl
  ·rw [<-hs];unfold V5 Ctx.tv;rw [hl.mt,hl.ti]
 refine h.add (λf ms r hk hr=> ?_);rw [CO] at hk;subst hk;simp only [Mc,sh,abc] at hh;obtain ⟨⟨⟨h1,h2⟩,h3⟩,h4⟩:=hh;exact (adB hG (P6 hG P7 (NI.qj hl)) hf h1 (IT h2) (No h3) (by rw [hl.key,CO];exact h4) (by rw [hl.key,CO];exact WV E5) hr).qj hl.symm
def U8 (c:Ctx)(n:Nat)(fn:Func)(cE:List (List Kd)):Bool:=
 !(fn.name== "runtime.NumGoroutine")&&acw c.n fn.ntmps&&aaH fn.ntmps 1000000&&aaH (fn.params.size+cE.length) fn.ntmps&&c.fe n
theorem jY.R8 {P:Program}{c:Ctx}{g:Nat->List MV->Option MV}{n pos:Nat}{ks:List LK}{fn:Func}{cE:List (List Kd)}{F:List MV->Option MV}(h:jY P c g)(uC:lV P c.ti)(oM:Sw P c.ti)(hfk: ∀t k,c.fk t=some k->P.underlying t=some (.float k))(UW:Fb P c)(P7:P.follows .mixedOrders=true)(NI:xX P c)(hf:P.funcs[n]? =some fn)(B3:c.sig n=some (pos,ks))(CO: ∀f,c.key f=f)(hF: ∀{ms r},F ms=some r-> ∃c':Ctx,DJ c c'/\c'.g=g/\U8 c' n fn cE=true/\Lx c' cE pos ks fn ms=some r):jY P c (bt n F g):=by
 refine h.add (λf ms r hk hr=> ?_);rw [CO] at hk;subst hk;obtain ⟨c',hl,hgg,hh,hr⟩:=hF hr;have hG:Good P c':=by
  refine ⟨by rw [hl.ti];exact uC,by rw [hl.ti];exact oM,λf ms r hr=> ?_,by rw [hl.fk];exact hfk,λt s hs=>UW t s ?_⟩
  ·rw [hgg,hl.key] at hr;exact (h.all f ms r hr).qj hl
  ·rw [<-hs];unfold V5 Ctx.tv;rw [hl.mt,hl.ti]
 simp only [U8,sh,abc] at hh;obtain ⟨⟨⟨⟨h1,h2⟩,Pu⟩,h3⟩,h4⟩:=hh;exact (Z6 hG (P6 hG P7 (NI.qj hl)) hf h1 (IT h2) (No Pu) (No h3) (by rw [hl.key,CO];exact h4) (by rw [hl.sig,hl.key,CO];exact B3) hr).qj hl.symm
end Dn
/-
  Steps through a function of the library by hand. Conditions: none.
-/
namespace Dn
open Go
def Ab (σ:Nat->Value)(d:Nat)(v:Value):Nat->Value:=λt=>bif acw t d then v else σ t
def ev (σ:Nat->Value):Operand->Value
 | .tmp t=>σ t
 | .const v=>v
 | .global g=> .pointer (some ⟨g,0,none⟩)
 | .func f=> .func (.func f) #[] #[]
structure Tm (a:Act) (n:Nat) (σ:Nat->Value):Prop where
 defers:a.defers=[]
 size:a.tmps.size=n
 get: ∀t,a.tmps.getD t undef=σ t
theorem Tm.eval {a:Act}{n:Nat} {σ:Nat->Value}(h:Tm a n σ):a.eval=ev σ:=by
 funext x;cases x with
 |tmp t=>exact h.get t
 |_=>rfl
theorem Tm.put {a:Act}{n:Nat} {σ:Nat->Value}(h:Tm a n σ){d:Nat}(hd:d<n)(v:Value):Tm (a.put (some d) v) n (Ab σ d v):=by
 refine ⟨h.defers,by simp [Act.put,h.size],λt=> ?_⟩;show (a.tmps.setIfInBounds d v).getD t undef=bif acw t d then v else σ t;by_cases ht:t=d
 ·subst ht;have:t<a.tmps.size:=by rw [h.size];exact hd
  simp [this]
 ·have hb:acw t d=false:=by
   cases hq:acw t d with
   |false=>rfl
   |true=>exact absurd (IT hq) ht
  rw [hb];have:=h.get t;simp only [adz,Array.getElem?_setIfInBounds_ne (ahK ht),cond_false] at this⊢;exact this
theorem tm3 (v0 v1 v2:Value)(k:Nat):Tm {tmps:= #[v0,v1,v2]++IS k undef,defers:=[]} (k+3) (Ab (Ab (Ab (λ_=>undef) 0 v0) 1 v1) 2 v2):=by
 refine ⟨rfl,by simp [afM],λq=> ?_⟩;by_cases h0:q=0
 ·subst h0;show (#[v0,v1,v2]++IS k undef).getD 0 undef=v0;simp [abM]
 by_cases h1:q=1
 ·subst h1;show (#[v0,v1,v2]++IS k undef).getD 1 undef=v1;simp [abM]
 by_cases h2:q=2
 ·subst h2;show (#[v0,v1,v2]++IS k undef).getD 2 undef=v2;simp [abM]
 have e: ∀{x y:Nat},x≠y->acw x y=false:=λ{x y} h=>by
  cases hq:acw x y with
  |false=>rfl
  |true=>exact absurd (IT hq) h
 simp only [Ab,e h0,e h1,e h2,cond_false];have h3:3<=q:=by omega
 simp [abM,agi,show¬q<3 by omega];by_cases hk:q-3<k<;>simp [hk]
section
variable {P:Program}{Q:Exit->Act->World->Prop}{ops:Array Oper}{o:Oper}{a:Act} {w w':World}{n:Nat} {σ:Nat->Value}
theorem Tm.step {i d:Nat}{op:Op}{rest:List Nat}{v:Value}(aO:Tm a n σ)(hi:ops[i]? =some o)(ho:ba o d op)(hd:d<n)(cC:(execOp (ev σ) o).run P w= .ok (.value v) w')(h: ∀a',Tm a' n (Ab σ d v)->wpOps P ops Q rest a' w'):wpOps P ops Q (i::rest) a w:=by refine vO hi ho.guard (v:=v) (w':=w') (by rw [aO.eval];exact cC) ?_;rw [ho.dst];exact h _ (aO.put hd v)
theorem aZ {d:Nat}{x:Operand}{e:Operand->Value}(ho:ba o d (.move x))(w:World):(execOp e o).run P w= .ok (.value (e x)) w:=by simp [execOp,ho.op]
theorem dy {d:Nat}{x:Operand}{e:Operand->Value}(ho:ba o d (.assign x))(w:World):(execOp e o).run P w= .ok (.value (e x)) w:=by simp [execOp,ho.op]
theorem nO {d:Nat}{t el:TypeId}{x:Operand}{e:Operand->Value}{ad:Option Addr}{m c:Nat}(ho:ba o d (.call {callee:= .builtin .len,args:= #[x],argTypes:= #[t]})) (hu:P.underlying t=some (.slice el)) (hx:e x= .slice ad m c) (w:World): (execOp e o).run P w= .ok (.value (.int .i64 m)) w:=by simp [execOp,ho.op,resolve,invoke,builtin,hx,Builtin.len_,goInt,run_underlying hu]
theorem U9 {d:Nat}{t el:TypeId}{x:Operand}{e:Operand->Value}{ad:Option Addr}{m c:Nat}(ho:ba o d (.call {callee:= .builtin .cap,args:= #[x],argTypes:= #[t]})) (hu:P.underlying t=some (.slice el)) (hx:e x= .slice ad m c) (w:World): (execOp e o).run P w= .ok (.value (.int .i64 c)) w:=by simp [execOp,ho.op,resolve,invoke,builtin,hx,Builtin.cap_,goInt,run_underlying hu]
theorem Ac {d:Nat}{op:BinOp} {t t':TypeId}{x y:Operand}{e:Operand->Value}{k:IntKind}{p q:Int}{v:Value}(ho:ba o d (.binOp op t x y t'))(hx:e x= .int k p)(hy:e y= .int k q)(hv: ∀w:World,(agr op t (.int k p) (.int k q)).run P w= .ok v w)(w:World):(execOp e o).run P w= .ok (.value v) w:=by
 have hg:(eqGuard op t x y (.int k p) (.int k q)).run P w= .ok () w:=by cases op<;>rfl
 simp [execOp,ho.op,hx,hy,hg,hv]
theorem qC {d:Nat} {t t':TypeId}{x y:Operand}{e:Operand->Value}{p q:Int}(ho:ba o d (.binOp .eql t x y t'))(hx:e x= .int .i64 p)(hy:e y= .int .i64 q)(w:World): (execOp e o).run P w= .ok (.value (.bool (decide (p=q)))) w:=Ac ho hx hy (λw=>by simp [agr,ahW];rfl) w
theorem P8 {d:Nat} {t t':TypeId}{x y:Operand}{e:Operand->Value}{p q:Int}(ho:ba o d (.binOp .gtr t x y t'))(hx:e x= .int .i64 p)(hy:e y= .int .i64 q)(w:World): (execOp e o).run P w= .ok (.value (.bool (decide (q<p)))) w:=Ac ho hx hy (λw=>by simp [agr,ahW]) w
theorem kL {d:Nat} {t t':TypeId}{x y:Operand}{e:Operand->Value}{p q:Nat}(ho:ba o d (.binOp .add t x y t'))(hx:e x= .int .i64 p)(hy:e y= .int .i64 q)(hl:p+q<2^63)(w:World): (execOp e o).run P w= .ok (.value (.int .i64 ((p+q:Nat):Int))) w:=Ac ho hx hy (λw=>by
  have:IntKind.i64.wrap ((p:Int)+(q:Int))=((p+q:Nat):Int):=by rw [adF];omega
  simp [agr,Op.intArith,this]) w
theorem aah {d:Nat} {t t':TypeId}{x y:Operand}{e:Operand->Value}{p q:Nat}(ho:ba o d (.binOp .sub t x y t'))(hx:e x= .int .i64 p)(hy:e y= .int .i64 q)(hl:p<2^63)(hq:q<=p)(w:World): (execOp e o).run P w= .ok (.value (.int .i64 ((p-q:Nat):Int))) w:=Ac ho hx hy (λw=>by
  have:IntKind.i64.wrap ((p:Int)-(q:Int))=((p-q:Nat):Int):=by rw [adF];omega
  simp [agr,Op.intArith,this]) w
theorem Va {d:Nat}{t:TypeId}{x:Operand}{e:Operand->Value}{b:Bool}(ho:ba o d (.unOp .not t x))(hx:e x= .bool b)(w:World): (execOp e o).run P w= .ok (.value (.bool (!b))) w:=by simp [execOp,ho.op,hx,Op.unary]
theorem Ad {d:Nat}{t el:TypeId}{x y:Operand}{e:Operand->Value}{ad:Option Addr}{m c l size:Nat}{i:TypeInfo}(ho:ba o d (.slice t x (some y) none none))(hu:P.underlying t=some (.slice el))(hi:P.info? el=some i)(hs:i.size=size)(hx:e x= .slice ad m c)(hy:e y= .int .i64 l)(hl:l<=m)(w:World):(execOp e o).run P w= .ok (.value (.slice (if c=l then ad else ad.map (·.add (l *size))) (m-l) (c-l))) w:=by simp [execOp,ho.op,agj,ag7,run_underlying hu,hx,hy,afR,typeInfo,hi,hs,aeh,aeF,asIntOf,hl]
theorem DK {d:Nat}{t el:TypeId}{x y:Operand}{e:Operand->Value}{ad:Option Addr}{m c l size:Nat}{i:TypeInfo}(ho:ba o d (.slice t x none (some y) none))(hu:P.underlying t=some (.slice el))(hi:P.info? el=some i)(hs:i.size=size)(hx:e x= .slice ad m c)(hy:e y= .int .i64 l)(hl:l<=c)(w:World):(execOp e o).run P w= .ok (.value (.slice ad l c)) w:=by
 have h0: ∀q:Addr,q.add 0=q:=λq=>by obtain ⟨b,o,s⟩:=q;cases s<;>simp [Addr.add]
 have:(if c=0 then ad else ad.map (·.add (0 *size)))=ad:=by cases ad<;>simp [h0]
 simp [execOp,ho.op,agj,ag7,run_underlying hu,hx,hy,afR,typeInfo,hi,hs,aeh,aeF,asIntOf,hl];cases ad<;>simp [h0]
theorem ou {d:Nat}{t el:TypeId}{x y:Operand}{e:Operand->Value}{g m c l size:Nat}{i:TypeInfo}(ho:ba o d (.slice t x (some y) none none))(hu:P.underlying t=some (.slice el))(hi:P.info? el=some i)(hs:i.size=size)(hx:e x= .slice (some ⟨g,0,none⟩) m c)(hy:e y= .int .i64 l)(hl:l<=m)(hc:l<c)(w:World):(execOp e o).run P w= .ok (.value (.slice (some ⟨g,l *size,none⟩) (m-l) (c-l))) w:=by
 rw [Ad ho hu hi hs hx hy hl w];have: ¬c=l:=by omega
 have h0:(⟨g,0,none⟩:Addr).add (l *size)=⟨g,l *size,none⟩:=by have:=adb g 0 (l *size);rwa [aew] at this
 simp [this,h0]
theorem adT {d:Nat}{x y:Operand}{t1 t2:TypeId}{f:FuncId}{e:Operand->Value}{v1 v2 v:Value}(ho:ba o d (.call {callee:= .value (.func f),args:= #[x,y],argTypes:= #[t1,t2]})) (he:e (.func f)= .func (.func f) #[] #[]) (hx:e x=v1) (hy:e y=v2) (h:(callFunc f #[v1,v2]).run P w= .ok (.value v) w'):(execOp e o).run P w= .ok (.value v) w':=by simp [execOp,ho.op,resolve,invoke,builtin,he,hx,hy,aeE,h]
theorem IL {d:Nat}{x y:Operand}{t1 t2:TypeId}{e:Operand->Value}{v1 v2 v:Value}(ho:ba o d (.call {callee:= .builtin .append,args:= #[x,y],argTypes:= #[t1,t2]})) (hx:e x=v1) (hy:e y=v2) (h:(acK #[t1,t2] o.type #[v1,v2]).run P w= .ok v w'):(execOp e o).run P w= .ok (.value v) w':=by simp [execOp,ho.op,resolve,invoke,builtin,hx,hy,h]
theorem DL {d:Nat}{x y:Operand}{t1 t2:TypeId}{e:Operand->Value}{v1 v2 v:Value}(ho:ba o d (.call {callee:= .builtin .copy,args:= #[x,y],argTypes:= #[t1,t2]})) (hx:e x=v1) (hy:e y=v2) (h:(acG #[t1,t2] o.type #[v1,v2]).run P w= .ok v w'):(execOp e o).run P w= .ok (.value v) w':=by simp [execOp,ho.op,resolve,invoke,builtin,hx,hy,h]
theorem qD {dT sT ty elem t:TypeId}{g o adU ah8 qf zY size k:Nat}{a:Addr}{dL:Array Value}{cs:List Value}{i:TypeInfo}(hu:P.underlying dT=some (.slice elem))(hi:P.info? elem=some i)(hs:i.size=size)(hg:w.heap[g]? =some (.cells dL t (0,0)))(hk:Nat.min qf adU=k)(hn:cs.length=k *size)(B2: ∀(j:Nat) v,cs[j]? =some v->w.cell? (a.add j)=some v)(zu:o+cs.length<=dL.size)(h1: ∀v∈cs,v.oneCell'=true): (acG #[dT,sT] ty #[.slice (some ⟨g,o,none⟩) adU ah8,.slice (some a) qf zY]).run P w= .ok (goInt k) (w.setRow g (dL.toList.take o++cs++dL.toList.drop (o+cs.length)).toArray):=by have hl:=run_loadCells_list (P:=P) w a cs B2;have eR:=run_storeCells_at P g o t cs 0 dL w hg (by simpa using zu) h1;simp only [aib] at eR;simp [acG,run_underlying hu,Builtin.lenOf,ahk,afR,typeInfo,hi,hs,hk,<-hn,hl,eR]
def P9 (ops:Array Oper):Nat->Nat->Array Bool->Bool
 |0,i,listed=>(AT .any ops (listed.setIfInBounds i true)).isEmpty&&(AT .any ops listed==[i])
 |k+1,i,listed=>Region.free .any ops listed i&&(AT .any ops listed).contains i&&P9 ops k (i+1) (listed.setIfInBounds i true)
def Vb (ops:Array Oper):Bool:=afF ops&&Nat.blt 0 ops.size&&P9 ops (ops.size-1) 0 (IS ops.size false)
structure Vc (ops:Array Oper) (k i:Nat) (listed:Array Bool):Prop where
 sel:afF ops=true
 ord:P9 ops k i listed=true
theorem Tm.draw {N:Act->World->Prop}{i d:Nat}{op:Op}{k:Nat}{listed:Array Bool}{v:Value}(aO:Tm a n σ)(hi:ops[i]? =some o)(ho:ba o d op)(hd:d<n)(hb:Vc ops (k+1) i listed)(cC: ∀w,(execOp (ev σ) o).run P w= .ok (.value v) w)(h: ∀a',Tm a' n (Ab σ d v)->Vc ops k (i+1) (listed.setIfInBounds i true)->wpAny P .any ops (qi N) (k+1) (listed.setIfInBounds i true) a' w):wpAny P .any ops (qi N) (k+2) listed a w:=by obtain ⟨hs,hb⟩:=hb;simp only [P9,sh] at hb;obtain ⟨⟨h1,h2⟩,h3⟩:=hb;refine wpAny_take hi hs h1 h2 (λc a w hq=>hq.elim) (v:=v) (.inl ⟨by simp [OF,ho.guard],λw=>by rw [aO.eval];exact cC w⟩) ?_;rw [ho.dst];exact h _ (aO.put hd v) ⟨hs,h3⟩
theorem Tm.last {N:Act->World->Prop}{i d:Nat}{op:Op}{listed:Array Bool}{v:Value}(aO:Tm a n σ)(hi:ops[i]? =some o)(ho:ba o d op)(hd:d<n)(hb:Vc ops 0 i listed)(cC:(execOp (ev σ) o).run P w= .ok (.value v) w')(h: ∀a',Tm a' n (Ab σ d v)->N a' w'):wpAny P .any ops (qi N) 1 listed a w:=by obtain ⟨hs,hb⟩:=hb;simp only [P9,sh,List.isEmpty_iff,beq_iff_eq] at hb;obtain ⟨h1,h2⟩:=hb;refine wpAny_all h2 (by simp) ?_;intro j hj;simp only [afU] at hj;subst hj;unfold wpOp;simp only [hi,OF,ho.guard,if_true];left;unfold afK;rw [aO.eval,cC,adQ,ho.dst];exact wpAny_done h1 (h _ (aO.put hd v)) 0
theorem Vd {id k:Nat}(hm:P.follows .mixedOrders=true)(hb:Vb ops=true)(hk:ops.size=k+1)(h:Vc ops k 0 (IS (k+1) false)->wpAny P .any ops (qi λa w=>Q .normal a w) (k+1) (IS (k+1) false) a {w with drawn:=w.drawn+1}): (age id ops true).wp P Q a w:=by simp only [Vb,sh] at hb;rw [hk] at hb;refine agy ?_ (wp_region_any (Q:=qi λa w=>Q .normal a w) hm (by rw [hk];exact h ⟨hb.1.1,hb.2⟩));intro x a' w' hx;cases x<;>first|exact hx|exact hx.elim
theorem Tm.cond {x:Operand}{b:Bool}{A B:Code}(aO:Tm a n σ)(hx:ev σ x= .bool b)(h:(if b then A else B).wp P Q a w):(Code.cond x A B).wp P Q a w:=by refine wp_cond (t:=b) (by rw [aO.eval];exact hx) h
end
end Dn
/-
  slices.Insert of the library, walked. Printed by a program. Conditions: none.
-/
namespace Dn
open Go
def xY (r:Nat->Nat)(o:Nat->Oper)(tail:Code):Code:= .seq (.region (r 0) #[o 0] false) (.seq (.region (r 1) #[o 1,o 2,o 3] false) (.seq (.region (r 2) #[o 4,o 5,o 6] false) (.seq (.seq (.region (r 3) #[o 7,o 8] false) (.cond (.tmp 16) (.seq (.region (r 4) #[o 9,o 10] false) .ret) .skip)) (.seq (.region (r 5) #[o 11,o 12,o 13] false) (.seq (.seq (.region (r 6) #[o 14,o 15,o 16] false) (.cond (.tmp 22) (.seq (.region (r 7) #[o 17,o 18,o 19,o 20] false) .ret) .skip)) (.seq (.seq (.region (r 8) #[o 21,o 22,o 23,o 24,o 25,o 26] false) (.cond (.tmp 31) (.seq (.region (r 9) #[o 27,o 28,o 29,o 30,o 31,o 32,o 33,o 34,o 35,o 36] false) (.seq (.region (r 10) #[o 37,o 38,o 39,o 40,o 41] false) (.seq (.region (r 11) #[o 42,o 43,o 44,o 45,o 46,o 47,o 48,o 49,o 50] true) (.seq (.region (r 12) #[o 51,o 52] false) .ret)))) .skip)) (.seq (.region (r 13) #[o 53,o 54,o 55,o 56,o 57,o 58] false) (.seq (.seq (.region (r 14) #[o 59,o 60,o 61,o 62,o 63,o 64,o 65,o 66] false) (.cond (.tmp 68) (.seq (.region (r 15) #[o 67,o 68,o 69,o 70,o 71,o 72,o 73,o 74,o 75] true) (.seq (.region (r 16) #[o 76,o 77,o 78,o 79,o 80] false) (.seq (.region (r 17) #[o 81,o 82] false) .ret))) .skip)) tail))))))))
structure ah9 (t ti tb fo:Nat) (o:Nat->Oper):Prop where
 h0:ba (o 0) 6 (.assign (.const (.slice none 0 0)))
 h1:ba (o 1) 10 (.move (.tmp 0))
 h2:ba (o 2) 11 (.move (.tmp 1))
 h3:ba (o 3) 12 (.slice t (.tmp 10) (some (.tmp 11)) none none)
 h4:ba (o 4) 13 (.move (.tmp 2))
 h5:ba (o 5) 14 (.call {callee:= .builtin .len,args:= #[.tmp 13],argTypes:= #[t]})
 h6:ba (o 6) 7 (.assign (.tmp 14))
 h7:ba (o 7) 15 (.move (.tmp 7))
 h8:ba (o 8) 16 (.binOp .eql ti (.tmp 15) (.const (.int .i64 0)) ti)
 h9:ba (o 9) 17 (.move (.tmp 0))
 UZ:ba (o 10) 6 (.assign (.tmp 17))
 Tc:ba (o 11) 18 (.move (.tmp 0))
 Td:ba (o 12) 19 (.call {callee:= .builtin .len,args:= #[.tmp 18],argTypes:= #[t]})
 Te:ba (o 13) 8 (.assign (.tmp 19))
 Tf:ba (o 14) 20 (.move (.tmp 1))
 O5:ba (o 15) 21 (.move (.tmp 8))
 Tg:ba (o 16) 22 (.binOp .eql ti (.tmp 20) (.tmp 21) ti)
 h17:ba (o 17) 23 (.move (.tmp 0))
 h18:ba (o 18) 24 (.move (.tmp 2))
 h19:ba (o 19) 25 (.call {callee:= .builtin .append,args:= #[.tmp 23,.tmp 24],argTypes:= #[t,t]})
 h20:ba (o 20) 6 (.assign (.tmp 25))
 h21:ba (o 21) 26 (.move (.tmp 8))
 h22:ba (o 22) 27 (.move (.tmp 7))
 h23:ba (o 23) 28 (.binOp .add ti (.tmp 26) (.tmp 27) ti)
 h24:ba (o 24) 29 (.move (.tmp 0))
 h25:ba (o 25) 30 (.call {callee:= .builtin .cap,args:= #[.tmp 29],argTypes:= #[t]})
 h26:ba (o 26) 31 (.binOp .gtr ti (.tmp 28) (.tmp 30) ti)
 h27:ba (o 27) 32 (.move (.tmp 0))
 h28:ba (o 28) 33 (.move (.tmp 1))
 h29:ba (o 29) 34 (.slice t (.tmp 32) none (some (.tmp 33)) none)
 h30:ba (o 30) 35 (.move (.tmp 8))
 h31:ba (o 31) 36 (.move (.tmp 7))
 h32:ba (o 32) 37 (.binOp .add ti (.tmp 35) (.tmp 36) ti)
 h33:ba (o 33) 38 (.move (.tmp 1))
 h34:ba (o 34) 39 (.binOp .sub ti (.tmp 37) (.tmp 38) ti)
 h35:ba (o 35) 40 (.call {callee:= .builtin .append,args:= #[.tmp 34,.tmp 39],argTypes:= #[t,ti]})
 h36:ba (o 36) 9 (.assign (.tmp 40))
 h37:ba (o 37) 41 (.move (.tmp 9))
 h38:ba (o 38) 42 (.move (.tmp 1))
 h39:ba (o 39) 43 (.slice t (.tmp 41) (some (.tmp 42)) none none)
 h40:ba (o 40) 44 (.move (.tmp 2))
 h41:ba (o 41) 45 (.call {callee:= .builtin .copy,args:= #[.tmp 43,.tmp 44],argTypes:= #[t,t]})
 h42:ba (o 42) 46 (.move (.tmp 9))
 h43:ba (o 43) 47 (.move (.tmp 1))
 h44:ba (o 44) 48 (.move (.tmp 7))
 h45:ba (o 45) 49 (.binOp .add ti (.tmp 47) (.tmp 48) ti)
 h46:ba (o 46) 50 (.slice t (.tmp 46) (some (.tmp 49)) none none)
 h47:ba (o 47) 51 (.move (.tmp 0))
 h48:ba (o 48) 52 (.move (.tmp 1))
 h49:ba (o 49) 53 (.slice t (.tmp 51) (some (.tmp 52)) none none)
 h50:ba (o 50) 54 (.call {callee:= .builtin .copy,args:= #[.tmp 50,.tmp 53],argTypes:= #[t,t]})
 h51:ba (o 51) 55 (.move (.tmp 9))
 h52:ba (o 52) 6 (.assign (.tmp 55))
 h53:ba (o 53) 56 (.move (.tmp 0))
 h54:ba (o 54) 57 (.move (.tmp 8))
 h55:ba (o 55) 58 (.move (.tmp 7))
 h56:ba (o 56) 59 (.binOp .add ti (.tmp 57) (.tmp 58) ti)
 h57:ba (o 57) 60 (.slice t (.tmp 56) none (some (.tmp 59)) none)
 h58:ba (o 58) 0 (.assign (.tmp 60))
 h59:ba (o 59) 61 (.move (.tmp 2))
 h60:ba (o 60) 62 (.move (.tmp 0))
 h61:ba (o 61) 63 (.move (.tmp 1))
 h62:ba (o 62) 64 (.move (.tmp 7))
 h63:ba (o 63) 65 (.binOp .add ti (.tmp 63) (.tmp 64) ti)
 h64:ba (o 64) 66 (.slice t (.tmp 62) (some (.tmp 65)) none none)
 h65:ba (o 65) 67 (.call {callee:= .value (.func fo),args:= #[.tmp 61,.tmp 66],argTypes:= #[t,t]})
 h66:ba (o 66) 68 (.unOp .not tb (.tmp 67))
 h67:ba (o 67) 69 (.move (.tmp 0))
 h68:ba (o 68) 70 (.move (.tmp 1))
 h69:ba (o 69) 71 (.move (.tmp 7))
 h70:ba (o 70) 72 (.binOp .add ti (.tmp 70) (.tmp 71) ti)
 h71:ba (o 71) 73 (.slice t (.tmp 69) (some (.tmp 72)) none none)
 h72:ba (o 72) 74 (.move (.tmp 0))
 h73:ba (o 73) 75 (.move (.tmp 1))
 h74:ba (o 74) 76 (.slice t (.tmp 74) (some (.tmp 75)) none none)
 h75:ba (o 75) 77 (.call {callee:= .builtin .copy,args:= #[.tmp 73,.tmp 76],argTypes:= #[t,t]})
 h76:ba (o 76) 78 (.move (.tmp 0))
 h77:ba (o 77) 79 (.move (.tmp 1))
 h78:ba (o 78) 80 (.slice t (.tmp 78) (some (.tmp 79)) none none)
 h79:ba (o 79) 81 (.move (.tmp 2))
 h80:ba (o 80) 82 (.call {callee:= .builtin .copy,args:= #[.tmp 80,.tmp 81],argTypes:= #[t,t]})
 h81:ba (o 81) 83 (.move (.tmp 0))
 h82:ba (o 82) 6 (.assign (.tmp 83))
 d11:Vb #[o 42,o 43,o 44,o 45,o 46,o 47,o 48,o 49,o 50]=true
 d15:Vb #[o 67,o 68,o 69,o 70,o 71,o 72,o 73,o 74,o 75]=true
structure IM (P:Program) (f t ti tb el fo:Nat) (fn:Func) (r:Nat->Nat) (o:Nat->Oper) (tail:Code):Prop where
 pos:P.funcs[f]? =some fn
 name:(fn.name== "runtime.NumGoroutine")=false
 tmps:fn.ntmps=95
 res:fn.results= #[.tmp 6]
 body:fn.body=some (xY r o tail)
 ops:ah9 t ti tb fo o
 mix:P.follows .mixedOrders=true
 xB:P.underlying t=some (.slice el)
section
variable {P:Program}{f t ti tb el fo:Nat}{fn:Func}{r:Nat->Nat}{o:Nat->Oper}{tail:Code}{ie:TypeInfo}{size n m c c2 i g g2:Nat}{ad:Option Addr}{w:World}
theorem NK {a:Act}{w:World} {σ:Nat->Value}{R:Ending->World->Prop}{v:Value}(hr:fn.results= #[.tmp 6])(aO:Tm a 95 σ)(h6:σ 6=v)(h:R (.returned v) w):bodyPost P fn R .ret a w:=by
 refine ⟨aO.defers,v,?_,h⟩;have h2:a.tmps[6]?.getD undef=v:=by have:=aO.get 6;rw [h6] at this;simpa using this
 simp [results,hr,h2]
theorem adV (hf:IM P f t ti tb el fo fn r o tail)(oQ:P.info? el=some ie)(vP:ie.size=size)(hm:0<m)(hn:n<=c)(hc:c<2^63)(hnm:n+m<2^63)(hi:i=n){v:Value}{w1:World}(cC: ∀ty,(acK #[t,t] ty #[.slice ad n c,.slice (some ⟨g2,0,none⟩) m c2]).run P w= .ok v w1) :Calls P f #[.slice ad n c,.int .i64 ((i:Nat):Int),.slice (some ⟨g2,0,none⟩) m c2] w λx w'=>x= .returned v/\w'=w1:=by
 refine calls_of_wp hf.pos hf.body ?_;rw [hf.tmps];have key: ∀a:Act,Tm a 95 (Ab (Ab (Ab (λ_=>undef) 0 (.slice ad n c)) 1 (.int .i64 ((i:Nat):Int))) 2 (.slice (some ⟨g2,0,none⟩) m c2))->(xY r o tail).wp P (bodyPost P fn λx w'=>x= .returned v/\w'=w1) a w:=by intro a aO;unfold xY;refine wp_seq (wp_region ?_);rw [show c8 (#[o 0]:Array Oper).size=[0] from rfl];refine aO.step (v:= .slice none 0 0) rfl hf.ops.h0 (by decide) (dy hf.ops.h0 _) (λa aO=> ?_);refine wp_seq (wp_region ?_);rw [show c8 (#[o 1,o 2,o 3]:Array Oper).size=[0,1,2] from rfl];refine aO.step (v:= .slice ad n c) rfl hf.ops.h1 (by decide) (aZ hf.ops.h1 _) (λa aO=> ?_);refine aO.step (v:= .int .i64 ((i:Nat):Int)) rfl hf.ops.h2 (by decide) (aZ hf.ops.h2 _) (λa aO=> ?_);refine aO.step (v:= .slice (if c=i then ad else (ad:Option Addr).map (·.add (i *size))) (n-i) (c-i)) rfl hf.ops.h3 (by decide) (Ad hf.ops.h3 hf.xB oQ vP rfl rfl (by omega) _) (λa aO=> ?_);refine wp_seq (wp_region ?_);rw [show c8 (#[o 4,o 5,o 6]:Array Oper).size=[0,1,2] from rfl];refine aO.step (v:= .slice (some ⟨g2,0,none⟩) m c2) rfl hf.ops.h4 (by decide) (aZ hf.ops.h4 _) (λa aO=> ?_);refine aO.step (v:= .int .i64 ((m:Nat):Int)) rfl hf.ops.h5 (by decide) (nO hf.ops.h5 hf.xB rfl _) (λa aO=> ?_);refine aO.step (v:= .int .i64 ((m:Nat):Int)) rfl hf.ops.h6 (by decide) (dy hf.ops.h6 _) (λa aO=> ?_);refine wp_seq ?_;refine wp_seq (wp_region ?_);rw [show c8 (#[o 7,o 8]:Array Oper).size=[0,1] from rfl];refine aO.step (v:= .int .i64 ((m:Nat):Int)) rfl hf.ops.h7 (by decide) (aZ hf.ops.h7 _) (λa aO=> ?_);refine aO.step (v:= .bool (decide (((m:Nat):Int)=((0:Nat):Int)))) rfl hf.ops.h8 (by decide) (qC hf.ops.h8 rfl rfl _) (λa aO=> ?_);refine aO.cond (b:=false) (by show abT (decide (((m:Nat):Int)=((0:Nat):Int)))=_;rw [decide_eq_false (by omega)]) ?_;simp only [By,if_false];refine wp_skip ?_;refine wp_seq (wp_region ?_);rw [show c8 (#[o 11,o 12,o 13]:Array Oper).size=[0,1,2] from rfl];refine aO.step (v:= .slice ad n c) rfl hf.ops.Tc (by decide) (aZ hf.ops.Tc _) (λa aO=> ?_);refine aO.step (v:= .int .i64 ((n:Nat):Int)) rfl hf.ops.Td (by decide) (nO hf.ops.Td hf.xB rfl _) (λa aO=> ?_);refine aO.step (v:= .int .i64 ((n:Nat):Int)) rfl hf.ops.Te (by decide) (dy hf.ops.Te _) (λa aO=> ?_);refine wp_seq ?_;refine wp_seq (wp_region ?_);rw [show c8 (#[o 14,o 15,o 16]:Array Oper).size=[0,1,2] from rfl];refine aO.step (v:= .int .i64 ((i:Nat):Int)) rfl hf.ops.Tf (by decide) (aZ hf.ops.Tf _) (λa aO=> ?_);refine aO.step (v:= .int .i64 ((n:Nat):Int)) rfl hf.ops.O5 (by decide) (aZ hf.ops.O5 _) (λa aO=> ?_);refine aO.step (v:= .bool (decide (((i:Nat):Int)=((n:Nat):Int)))) rfl hf.ops.Tg (by decide) (qC hf.ops.Tg rfl rfl _) (λa aO=> ?_);refine aO.cond (b:=true) (by show abT (decide (((i:Nat):Int)=((n:Nat):Int)))=_;rw [decide_eq_true (by omega)]) ?_;simp only [if_true];refine wp_seq (wp_region ?_);rw [show c8 (#[o 17,o 18,o 19,o 20]:Array Oper).size=[0,1,2,3] from rfl];refine aO.step (v:= .slice ad n c) rfl hf.ops.h17 (by decide) (aZ hf.ops.h17 _) (λa aO=> ?_);refine aO.step (v:= .slice (some ⟨g2,0,none⟩) m c2) rfl hf.ops.h18 (by decide) (aZ hf.ops.h18 _) (λa aO=> ?_);refine aO.step (v:=v) rfl hf.ops.h19 (by decide) (IL hf.ops.h19 rfl rfl (cC _)) (λa aO=> ?_);refine aO.step (v:=v) rfl hf.ops.h20 (by decide) (dy hf.ops.h20 _) (λa aO=> ?_);refine wp_ret ?_;show bodyPost P fn (λx wq=>x= .returned (v)/\wq=w1) .ret a w1;refine NK hf.res aO (v:=v) rfl ?_;exact ⟨rfl,rfl⟩
 exact key _ (tm3 _ _ _ 92)
theorem aak (hf:IM P f t ti tb el fo fn r o tail)(oQ:P.info? el=some ie)(vP:ie.size=size)(hm:0<m)(hn:n<=c)(hc:c<2^63)(hnm:n+m<2^63)(hi:i<n)(uS:c<n+m){g9 G:Nat}{v1 v2:Value}{w1 w2 w3:World}(hG:n+m<=G)(hA: ∀ty,(acK #[t,ti] ty #[.slice (some ⟨g,0,none⟩) i c,.int .i64 ((n+m-i:Nat):Int)]).run P w= .ok (.slice (some ⟨g9,0,none⟩) (n+m) G) w1)(hB: ∀ty,(acG #[t,t] ty #[.slice (some ⟨g9,i *size,none⟩) (n+m-i) (G-i),.slice (some ⟨g2,0,none⟩) m c2]).run P w1= .ok v1 w2)(hC: ∀ty,(acG #[t,t] ty #[.slice (some ⟨g9,(i+m) *size,none⟩) (n+m-(i+m)) (G-(i+m)),.slice (some ⟨g,i *size,none⟩) (n-i) (c-i)]).run P {w2 with drawn:=w2.drawn+1}= .ok v2 w3) :Calls P f #[.slice (some ⟨g,0,none⟩) n c,.int .i64 ((i:Nat):Int),.slice (some ⟨g2,0,none⟩) m c2] w λx w'=>x= .returned (.slice (some ⟨g9,0,none⟩) (n+m) G)/\w'=w3:=by
 refine calls_of_wp hf.pos hf.body ?_;rw [hf.tmps];have key: ∀a:Act,Tm a 95 (Ab (Ab (Ab (λ_=>undef) 0 (.slice (some ⟨g,0,none⟩) n c)) 1 (.int .i64 ((i:Nat):Int))) 2 (.slice (some ⟨g2,0,none⟩) m c2))->(xY r o tail).wp P (bodyPost P fn λx w'=>x= .returned (.slice (some ⟨g9,0,none⟩) (n+m) G)/\w'=w3) a w:=by intro a aO;unfold xY;refine wp_seq (wp_region ?_);rw [show c8 (#[o 0]:Array Oper).size=[0] from rfl];refine aO.step (v:= .slice none 0 0) rfl hf.ops.h0 (by decide) (dy hf.ops.h0 _) (λa aO=> ?_);refine wp_seq (wp_region ?_);rw [show c8 (#[o 1,o 2,o 3]:Array Oper).size=[0,1,2] from rfl];refine aO.step (v:= .slice (some ⟨g,0,none⟩) n c) rfl hf.ops.h1 (by decide) (aZ hf.ops.h1 _) (λa aO=> ?_);refine aO.step (v:= .int .i64 ((i:Nat):Int)) rfl hf.ops.h2 (by decide) (aZ hf.ops.h2 _) (λa aO=> ?_);refine aO.step (v:= .slice (if c=i then (some ⟨g,0,none⟩) else ((some ⟨g,0,none⟩):Option Addr).map (·.add (i *size))) (n-i) (c-i)) rfl hf.ops.h3 (by decide) (Ad hf.ops.h3 hf.xB oQ vP rfl rfl (by omega) _) (λa aO=> ?_);refine wp_seq (wp_region ?_);rw [show c8 (#[o 4,o 5,o 6]:Array Oper).size=[0,1,2] from rfl];refine aO.step (v:= .slice (some ⟨g2,0,none⟩) m c2) rfl hf.ops.h4 (by decide) (aZ hf.ops.h4 _) (λa aO=> ?_);refine aO.step (v:= .int .i64 ((m:Nat):Int)) rfl hf.ops.h5 (by decide) (nO hf.ops.h5 hf.xB rfl _) (λa aO=> ?_);refine aO.step (v:= .int .i64 ((m:Nat):Int)) rfl hf.ops.h6 (by decide) (dy hf.ops.h6 _) (λa aO=> ?_);refine wp_seq ?_;refine wp_seq (wp_region ?_);rw [show c8 (#[o 7,o 8]:Array Oper).size=[0,1] from rfl];refine aO.step (v:= .int .i64 ((m:Nat):Int)) rfl hf.ops.h7 (by decide) (aZ hf.ops.h7 _) (λa aO=> ?_);refine aO.step (v:= .bool (decide (((m:Nat):Int)=((0:Nat):Int)))) rfl hf.ops.h8 (by decide) (qC hf.ops.h8 rfl rfl _) (λa aO=> ?_);refine aO.cond (b:=false) (by show abT (decide (((m:Nat):Int)=((0:Nat):Int)))=_;rw [decide_eq_false (by omega)]) ?_;simp only [By,if_false];refine wp_skip ?_;refine wp_seq (wp_region ?_);rw [show c8 (#[o 11,o 12,o 13]:Array Oper).size=[0,1,2] from rfl];refine aO.step (v:= .slice (some ⟨g,0,none⟩) n c) rfl hf.ops.Tc (by decide) (aZ hf.ops.Tc _) (λa aO=> ?_);refine aO.step (v:= .int .i64 ((n:Nat):Int)) rfl hf.ops.Td (by decide) (nO hf.ops.Td hf.xB rfl _) (λa aO=> ?_);refine aO.step (v:= .int .i64 ((n:Nat):Int)) rfl hf.ops.Te (by decide) (dy hf.ops.Te _) (λa aO=> ?_);refine wp_seq ?_;refine wp_seq (wp_region ?_);rw [show c8 (#[o 14,o 15,o 16]:Array Oper).size=[0,1,2] from rfl];refine aO.step (v:= .int .i64 ((i:Nat):Int)) rfl hf.ops.Tf (by decide) (aZ hf.ops.Tf _) (λa aO=> ?_);refine aO.step (v:= .int .i64 ((n:Nat):Int)) rfl hf.ops.O5 (by decide) (aZ hf.ops.O5 _) (λa aO=> ?_);refine aO.step (v:= .bool (decide (((i:Nat):Int)=((n:Nat):Int)))) rfl hf.ops.Tg (by decide) (qC hf.ops.Tg rfl rfl _) (λa aO=> ?_);refine aO.cond (b:=false) (by show abT (decide (((i:Nat):Int)=((n:Nat):Int)))=_;rw [decide_eq_false (by omega)]) ?_;simp only [By,if_false];refine wp_skip ?_;refine wp_seq ?_;refine wp_seq (wp_region ?_);rw [show c8 (#[o 21,o 22,o 23,o 24,o 25,o 26]:Array Oper).size=[0,1,2,3,4,5] from rfl];refine aO.step (v:= .int .i64 ((n:Nat):Int)) rfl hf.ops.h21 (by decide) (aZ hf.ops.h21 _) (λa aO=> ?_);refine aO.step (v:= .int .i64 ((m:Nat):Int)) rfl hf.ops.h22 (by decide) (aZ hf.ops.h22 _) (λa aO=> ?_);refine aO.step (v:= .int .i64 ((n+m:Nat):Int)) rfl hf.ops.h23 (by decide) (kL hf.ops.h23 rfl rfl (by omega) _) (λa aO=> ?_);refine aO.step (v:= .slice (some ⟨g,0,none⟩) n c) rfl hf.ops.h24 (by decide) (aZ hf.ops.h24 _) (λa aO=> ?_);refine aO.step (v:= .int .i64 ((c:Nat):Int)) rfl hf.ops.h25 (by decide) (U9 hf.ops.h25 hf.xB rfl _) (λa aO=> ?_);refine aO.step (v:= .bool (decide (((c:Nat):Int)<(((n+m):Nat):Int)))) rfl hf.ops.h26 (by decide) (P8 hf.ops.h26 rfl rfl _) (λa aO=> ?_);refine aO.cond (b:=true) (by show abT (decide (((c:Nat):Int)<((n+m:Nat):Int)))=_;rw [decide_eq_true (by omega)]) ?_;simp only [if_true];refine wp_seq (wp_region ?_);rw [show c8 (#[o 27,o 28,o 29,o 30,o 31,o 32,o 33,o 34,o 35,o 36]:Array Oper).size=[0,1,2,3,4,5,6,7,8,9] from rfl];refine aO.step (v:= .slice (some ⟨g,0,none⟩) n c) rfl hf.ops.h27 (by decide) (aZ hf.ops.h27 _) (λa aO=> ?_);refine aO.step (v:= .int .i64 ((i:Nat):Int)) rfl hf.ops.h28 (by decide) (aZ hf.ops.h28 _) (λa aO=> ?_);refine aO.step (v:= .slice (some ⟨g,0,none⟩) i c) rfl hf.ops.h29 (by decide) (DK hf.ops.h29 hf.xB oQ vP rfl rfl (by omega) _) (λa aO=> ?_);refine aO.step (v:= .int .i64 ((n:Nat):Int)) rfl hf.ops.h30 (by decide) (aZ hf.ops.h30 _) (λa aO=> ?_);refine aO.step (v:= .int .i64 ((m:Nat):Int)) rfl hf.ops.h31 (by decide) (aZ hf.ops.h31 _) (λa aO=> ?_);refine aO.step (v:= .int .i64 ((n+m:Nat):Int)) rfl hf.ops.h32 (by decide) (kL hf.ops.h32 rfl rfl (by omega) _) (λa aO=> ?_);refine aO.step (v:= .int .i64 ((i:Nat):Int)) rfl hf.ops.h33 (by decide) (aZ hf.ops.h33 _) (λa aO=> ?_);refine aO.step (v:= .int .i64 (((n+m)-i:Nat):Int)) rfl hf.ops.h34 (by decide) (aah hf.ops.h34 rfl rfl (by omega) (by omega) _) (λa aO=> ?_);refine aO.step (v:= .slice (some ⟨g9,0,none⟩) (n+m) G) rfl hf.ops.h35 (by decide) (IL hf.ops.h35 rfl rfl (hA _)) (λa aO=> ?_);refine aO.step (v:= .slice (some ⟨g9,0,none⟩) (n+m) G) rfl hf.ops.h36 (by decide) (dy hf.ops.h36 _) (λa aO=> ?_);refine wp_seq (wp_region ?_);rw [show c8 (#[o 37,o 38,o 39,o 40,o 41]:Array Oper).size=[0,1,2,3,4] from rfl];refine aO.step (v:= .slice (some ⟨g9,0,none⟩) (n+m) G) rfl hf.ops.h37 (by decide) (aZ hf.ops.h37 _) (λa aO=> ?_);refine aO.step (v:= .int .i64 ((i:Nat):Int)) rfl hf.ops.h38 (by decide) (aZ hf.ops.h38 _) (λa aO=> ?_);refine aO.step (v:= .slice (some ⟨g9,i *size,none⟩) (n+m-i) (G-i)) rfl hf.ops.h39 (by decide) (ou hf.ops.h39 hf.xB oQ vP rfl rfl (by omega) (by omega) _) (λa aO=> ?_);refine aO.step (v:= .slice (some ⟨g2,0,none⟩) m c2) rfl hf.ops.h40 (by decide) (aZ hf.ops.h40 _) (λa aO=> ?_);refine aO.step (v:=v1) rfl hf.ops.h41 (by decide) (DL hf.ops.h41 rfl rfl (hB _)) (λa aO=> ?_);refine wp_seq (Vd hf.mix hf.ops.d11 (k:=8) rfl λir=> ?_);refine aO.draw (v:= .slice (some ⟨g9,0,none⟩) (n+m) G) rfl hf.ops.h42 (by decide) ir (λw=>aZ hf.ops.h42 _) (λa aO ir=> ?_);refine aO.draw (v:= .int .i64 ((i:Nat):Int)) rfl hf.ops.h43 (by decide) ir (λw=>aZ hf.ops.h43 _) (λa aO ir=> ?_);refine aO.draw (v:= .int .i64 ((m:Nat):Int)) rfl hf.ops.h44 (by decide) ir (λw=>aZ hf.ops.h44 _) (λa aO ir=> ?_);refine aO.draw (v:= .int .i64 ((i+m:Nat):Int)) rfl hf.ops.h45 (by decide) ir (λw=>kL hf.ops.h45 rfl rfl (by omega) _) (λa aO ir=> ?_);refine aO.draw (v:= .slice (some ⟨g9,(i+m) *size,none⟩) (n+m-(i+m)) (G-(i+m))) rfl hf.ops.h46 (by decide) ir (λw=>ou hf.ops.h46 hf.xB oQ vP rfl rfl (by omega) (by omega) _) (λa aO ir=> ?_);refine aO.draw (v:= .slice (some ⟨g,0,none⟩) n c) rfl hf.ops.h47 (by decide) ir (λw=>aZ hf.ops.h47 _) (λa aO ir=> ?_);refine aO.draw (v:= .int .i64 ((i:Nat):Int)) rfl hf.ops.h48 (by decide) ir (λw=>aZ hf.ops.h48 _) (λa aO ir=> ?_);refine aO.draw (v:= .slice (some ⟨g,i *size,none⟩) (n-i) (c-i)) rfl hf.ops.h49 (by decide) ir (λw=>ou hf.ops.h49 hf.xB oQ vP rfl rfl (by omega) (by omega) _) (λa aO ir=> ?_);refine aO.last (v:=v2) rfl hf.ops.h50 (by decide) ir (DL hf.ops.h50 rfl rfl (hC _)) (λa aO=> ?_);refine wp_seq (wp_region ?_);rw [show c8 (#[o 51,o 52]:Array Oper).size=[0,1] from rfl];refine aO.step (v:= .slice (some ⟨g9,0,none⟩) (n+m) G) rfl hf.ops.h51 (by decide) (aZ hf.ops.h51 _) (λa aO=> ?_);refine aO.step (v:= .slice (some ⟨g9,0,none⟩) (n+m) G) rfl hf.ops.h52 (by decide) (dy hf.ops.h52 _) (λa aO=> ?_);refine wp_ret ?_;show bodyPost P fn (λx wq=>x= .returned (.slice (some ⟨g9,0,none⟩) (n+m) G)/\wq=w3) .ret a w3;refine NK hf.res aO (v:= .slice (some ⟨g9,0,none⟩) (n+m) G) rfl ?_;exact ⟨rfl,rfl⟩
 exact key _ (tm3 _ _ _ 92)
theorem aal (hf:IM P f t ti tb el fo fn r o tail)(oQ:P.info? el=some ie)(vP:ie.size=size)(hm:0<m)(hn:n<=c)(hc:c<2^63)(hnm:n+m<2^63)(hi:i<n)(uS:n+m<=c){v1 v2:Value}{w1 w2:World}(hO:(callFunc fo #[.slice (some ⟨g2,0,none⟩) m c2,.slice (some ⟨g,(i+m) *size,none⟩) (n+m-(i+m)) (c-(i+m))]).run P w= .ok (.value (.bool false)) w)(hB: ∀ty,(acG #[t,t] ty #[.slice (some ⟨g,(i+m) *size,none⟩) (n+m-(i+m)) (c-(i+m)),.slice (some ⟨g,i *size,none⟩) (n+m-i) (c-i)]).run P {w with drawn:=w.drawn+1}= .ok v1 w1) (hC: ∀ty,(acG #[t,t] ty #[.slice (some ⟨g,i *size,none⟩) (n+m-i) (c-i),.slice (some ⟨g2,0,none⟩) m c2]).run P w1= .ok v2 w2) :Calls P f #[.slice (some ⟨g,0,none⟩) n c,.int .i64 ((i:Nat):Int),.slice (some ⟨g2,0,none⟩) m c2] w λx w'=>x= .returned (.slice (some ⟨g,0,none⟩) (n+m) c)/\w'=w2:=by
 refine calls_of_wp hf.pos hf.body ?_;rw [hf.tmps];have key: ∀a:Act,Tm a 95 (Ab (Ab (Ab (λ_=>undef) 0 (.slice (some ⟨g,0,none⟩) n c)) 1 (.int .i64 ((i:Nat):Int))) 2 (.slice (some ⟨g2,0,none⟩) m c2))->(xY r o tail).wp P (bodyPost P fn λx w'=>x= .returned (.slice (some ⟨g,0,none⟩) (n+m) c)/\w'=w2) a w:=by intro a aO;unfold xY;refine wp_seq (wp_region ?_);rw [show c8 (#[o 0]:Array Oper).size=[0] from rfl];refine aO.step (v:= .slice none 0 0) rfl hf.ops.h0 (by decide) (dy hf.ops.h0 _) (λa aO=> ?_);refine wp_seq (wp_region ?_);rw [show c8 (#[o 1,o 2,o 3]:Array Oper).size=[0,1,2] from rfl];refine aO.step (v:= .slice (some ⟨g,0,none⟩) n c) rfl hf.ops.h1 (by decide) (aZ hf.ops.h1 _) (λa aO=> ?_);refine aO.step (v:= .int .i64 ((i:Nat):Int)) rfl hf.ops.h2 (by decide) (aZ hf.ops.h2 _) (λa aO=> ?_);refine aO.step (v:= .slice (if c=i then (some ⟨g,0,none⟩) else ((some ⟨g,0,none⟩):Option Addr).map (·.add (i *size))) (n-i) (c-i)) rfl hf.ops.h3 (by decide) (Ad hf.ops.h3 hf.xB oQ vP rfl rfl (by omega) _) (λa aO=> ?_);refine wp_seq (wp_region ?_);rw [show c8 (#[o 4,o 5,o 6]:Array Oper).size=[0,1,2] from rfl];refine aO.step (v:= .slice (some ⟨g2,0,none⟩) m c2) rfl hf.ops.h4 (by decide) (aZ hf.ops.h4 _) (λa aO=> ?_);refine aO.step (v:= .int .i64 ((m:Nat):Int)) rfl hf.ops.h5 (by decide) (nO hf.ops.h5 hf.xB rfl _) (λa aO=> ?_);refine aO.step (v:= .int .i64 ((m:Nat):Int)) rfl hf.ops.h6 (by decide) (dy hf.ops.h6 _) (λa aO=> ?_);refine wp_seq ?_;refine wp_seq (wp_region ?_);rw [show c8 (#[o 7,o 8]:Array Oper).size=[0,1] from rfl];refine aO.step (v:= .int .i64 ((m:Nat):Int)) rfl hf.ops.h7 (by decide) (aZ hf.ops.h7 _) (λa aO=> ?_);refine aO.step (v:= .bool (decide (((m:Nat):Int)=((0:Nat):Int)))) rfl hf.ops.h8 (by decide) (qC hf.ops.h8 rfl rfl _) (λa aO=> ?_);refine aO.cond (b:=false) (by show abT (decide (((m:Nat):Int)=((0:Nat):Int)))=_;rw [decide_eq_false (by omega)]) ?_;simp only [By,if_false];refine wp_skip ?_;refine wp_seq (wp_region ?_);rw [show c8 (#[o 11,o 12,o 13]:Array Oper).size=[0,1,2] from rfl];refine aO.step (v:= .slice (some ⟨g,0,none⟩) n c) rfl hf.ops.Tc (by decide) (aZ hf.ops.Tc _) (λa aO=> ?_);refine aO.step (v:= .int .i64 ((n:Nat):Int)) rfl hf.ops.Td (by decide) (nO hf.ops.Td hf.xB rfl _) (λa aO=> ?_);refine aO.step (v:= .int .i64 ((n:Nat):Int)) rfl hf.ops.Te (by decide) (dy hf.ops.Te _) (λa aO=> ?_);refine wp_seq ?_;refine wp_seq (wp_region ?_);rw [show c8 (#[o 14,o 15,o 16]:Array Oper).size=[0,1,2] from rfl];refine aO.step (v:= .int .i64 ((i:Nat):Int)) rfl hf.ops.Tf (by decide) (aZ hf.ops.Tf _) (λa aO=> ?_);refine aO.step (v:= .int .i64 ((n:Nat):Int)) rfl hf.ops.O5 (by decide) (aZ hf.ops.O5 _) (λa aO=> ?_);refine aO.step (v:= .bool (decide (((i:Nat):Int)=((n:Nat):Int)))) rfl hf.ops.Tg (by decide) (qC hf.ops.Tg rfl rfl _) (λa aO=> ?_);refine aO.cond (b:=false) (by show abT (decide (((i:Nat):Int)=((n:Nat):Int)))=_;rw [decide_eq_false (by omega)]) ?_;simp only [By,if_false];refine wp_skip ?_;refine wp_seq ?_;refine wp_seq (wp_region ?_);rw [show c8 (#[o 21,o 22,o 23,o 24,o 25,o 26]:Array Oper).size=[0,1,2,3,4,5] from rfl];refine aO.step (v:= .int .i64 ((n:Nat):Int)) rfl hf.ops.h21 (by decide) (aZ hf.ops.h21 _) (λa aO=> ?_);refine aO.step (v:= .int .i64 ((m:Nat):Int)) rfl hf.ops.h22 (by decide) (aZ hf.ops.h22 _) (λa aO=> ?_);refine aO.step (v:= .int .i64 ((n+m:Nat):Int)) rfl hf.ops.h23 (by decide) (kL hf.ops.h23 rfl rfl (by omega) _) (λa aO=> ?_);refine aO.step (v:= .slice (some ⟨g,0,none⟩) n c) rfl hf.ops.h24 (by decide) (aZ hf.ops.h24 _) (λa aO=> ?_);refine aO.step (v:= .int .i64 ((c:Nat):Int)) rfl hf.ops.h25 (by decide) (U9 hf.ops.h25 hf.xB rfl _) (λa aO=> ?_);refine aO.step (v:= .bool (decide (((c:Nat):Int)<(((n+m):Nat):Int)))) rfl hf.ops.h26 (by decide) (P8 hf.ops.h26 rfl rfl _) (λa aO=> ?_);refine aO.cond (b:=false) (by show abT (decide (((c:Nat):Int)<((n+m:Nat):Int)))=_;rw [decide_eq_false (by omega)]) ?_;simp only [By,if_false];refine wp_skip ?_;refine wp_seq (wp_region ?_);rw [show c8 (#[o 53,o 54,o 55,o 56,o 57,o 58]:Array Oper).size=[0,1,2,3,4,5] from rfl];refine aO.step (v:= .slice (some ⟨g,0,none⟩) n c) rfl hf.ops.h53 (by decide) (aZ hf.ops.h53 _) (λa aO=> ?_);refine aO.step (v:= .int .i64 ((n:Nat):Int)) rfl hf.ops.h54 (by decide) (aZ hf.ops.h54 _) (λa aO=> ?_);refine aO.step (v:= .int .i64 ((m:Nat):Int)) rfl hf.ops.h55 (by decide) (aZ hf.ops.h55 _) (λa aO=> ?_);refine aO.step (v:= .int .i64 ((n+m:Nat):Int)) rfl hf.ops.h56 (by decide) (kL hf.ops.h56 rfl rfl (by omega) _) (λa aO=> ?_);refine aO.step (v:= .slice (some ⟨g,0,none⟩) (n+m) c) rfl hf.ops.h57 (by decide) (DK hf.ops.h57 hf.xB oQ vP rfl rfl (by omega) _) (λa aO=> ?_);refine aO.step (v:= .slice (some ⟨g,0,none⟩) (n+m) c) rfl hf.ops.h58 (by decide) (dy hf.ops.h58 _) (λa aO=> ?_);refine wp_seq ?_;refine wp_seq (wp_region ?_);rw [show c8 (#[o 59,o 60,o 61,o 62,o 63,o 64,o 65,o 66]:Array Oper).size=[0,1,2,3,4,5,6,7] from rfl];refine aO.step (v:= .slice (some ⟨g2,0,none⟩) m c2) rfl hf.ops.h59 (by decide) (aZ hf.ops.h59 _) (λa aO=> ?_);refine aO.step (v:= .slice (some ⟨g,0,none⟩) (n+m) c) rfl hf.ops.h60 (by decide) (aZ hf.ops.h60 _) (λa aO=> ?_);refine aO.step (v:= .int .i64 ((i:Nat):Int)) rfl hf.ops.h61 (by decide) (aZ hf.ops.h61 _) (λa aO=> ?_);refine aO.step (v:= .int .i64 ((m:Nat):Int)) rfl hf.ops.h62 (by decide) (aZ hf.ops.h62 _) (λa aO=> ?_);refine aO.step (v:= .int .i64 ((i+m:Nat):Int)) rfl hf.ops.h63 (by decide) (kL hf.ops.h63 rfl rfl (by omega) _) (λa aO=> ?_);refine aO.step (v:= .slice (some ⟨g,(i+m) *size,none⟩) (n+m-(i+m)) (c-(i+m))) rfl hf.ops.h64 (by decide) (ou hf.ops.h64 hf.xB oQ vP rfl rfl (by omega) (by omega) _) (λa aO=> ?_);refine aO.step (v:= .bool false) rfl hf.ops.h65 (by decide) (adT hf.ops.h65 rfl rfl rfl hO) (λa aO=> ?_);refine aO.step (v:= .bool (!false)) rfl hf.ops.h66 (by decide) (Va hf.ops.h66 rfl _) (λa aO=> ?_);refine aO.cond (b:=true) rfl ?_;simp only [if_true];refine wp_seq (Vd hf.mix hf.ops.d15 (k:=8) rfl λir=> ?_);refine aO.draw (v:= .slice (some ⟨g,0,none⟩) (n+m) c) rfl hf.ops.h67 (by decide) ir (λw=>aZ hf.ops.h67 _) (λa aO ir=> ?_);refine aO.draw (v:= .int .i64 ((i:Nat):Int)) rfl hf.ops.h68 (by decide) ir (λw=>aZ hf.ops.h68 _) (λa aO ir=> ?_);refine aO.draw (v:= .int .i64 ((m:Nat):Int)) rfl hf.ops.h69 (by decide) ir (λw=>aZ hf.ops.h69 _) (λa aO ir=> ?_);refine aO.draw (v:= .int .i64 ((i+m:Nat):Int)) rfl hf.ops.h70 (by decide) ir (λw=>kL hf.ops.h70 rfl rfl (by omega) _) (λa aO ir=> ?_);refine aO.draw (v:= .slice (some ⟨g,(i+m) *size,none⟩) (n+m-(i+m)) (c-(i+m))) rfl hf.ops.h71 (by decide) ir (λw=>ou hf.ops.h71 hf.xB oQ vP rfl rfl (by omega) (by omega) _) (λa aO ir=> ?_);refine aO.draw (v:= .slice (some ⟨g,0,none⟩) (n+m) c) rfl hf.ops.h72 (by decide) ir (λw=>aZ hf.ops.h72 _) (λa aO ir=> ?_);refine aO.draw (v:= .int .i64 ((i:Nat):Int)) rfl hf.ops.h73 (by decide) ir (λw=>aZ hf.ops.h73 _) (λa aO ir=> ?_);refine aO.draw (v:= .slice (some ⟨g,i *size,none⟩) (n+m-i) (c-i)) rfl hf.ops.h74 (by decide) ir (λw=>ou hf.ops.h74 hf.xB oQ vP rfl rfl (by omega) (by omega) _) (λa aO ir=> ?_);refine aO.last (v:=v1) rfl hf.ops.h75 (by decide) ir (DL hf.ops.h75 rfl rfl (hB _)) (λa aO=> ?_);refine wp_seq (wp_region ?_);rw [show c8 (#[o 76,o 77,o 78,o 79,o 80]:Array Oper).size=[0,1,2,3,4] from rfl];refine aO.step (v:= .slice (some ⟨g,0,none⟩) (n+m) c) rfl hf.ops.h76 (by decide) (aZ hf.ops.h76 _) (λa aO=> ?_);refine aO.step (v:= .int .i64 ((i:Nat):Int)) rfl hf.ops.h77 (by decide) (aZ hf.ops.h77 _) (λa aO=> ?_);refine aO.step (v:= .slice (some ⟨g,i *size,none⟩) (n+m-i) (c-i)) rfl hf.ops.h78 (by decide) (ou hf.ops.h78 hf.xB oQ vP rfl rfl (by omega) (by omega) _) (λa aO=> ?_);refine aO.step (v:= .slice (some ⟨g2,0,none⟩) m c2) rfl hf.ops.h79 (by decide) (aZ hf.ops.h79 _) (λa aO=> ?_);refine aO.step (v:=v2) rfl hf.ops.h80 (by decide) (DL hf.ops.h80 rfl rfl (hC _)) (λa aO=> ?_);refine wp_seq (wp_region ?_);rw [show c8 (#[o 81,o 82]:Array Oper).size=[0,1] from rfl];refine aO.step (v:= .slice (some ⟨g,0,none⟩) (n+m) c) rfl hf.ops.h81 (by decide) (aZ hf.ops.h81 _) (λa aO=> ?_);refine aO.step (v:= .slice (some ⟨g,0,none⟩) (n+m) c) rfl hf.ops.h82 (by decide) (dy hf.ops.h82 _) (λa aO=> ?_);refine wp_ret ?_;show bodyPost P fn (λx wq=>x= .returned (.slice (some ⟨g,0,none⟩) (n+m) c)/\wq=w2) .ret a w2;refine NK hf.res aO (v:= .slice (some ⟨g,0,none⟩) (n+m) c) rfl ?_;exact ⟨rfl,rfl⟩
 exact key _ (tm3 _ _ _ 92)
end
end Dn
/-
  What slices.Insert does to a slice of its own. Conditions: none.
-/
namespace Dn
open Go
section
variable {key:Nat->Nat} {φ:Ph}{size:Nat}
theorem bx.take {xs:List MV}: ∀{cs:List Value}(i:Nat),bx key φ size cs xs->bx key φ size (cs.take (i *size)) (xs.take i):=by
 induction xs with
 |nil=>intro cs i h;cases h;simp [bx]
 |cons x xs ih=>
  intro cs i h;obtain ⟨v,q,rfl,h1,h2,h3⟩:=h;cases i with
  |zero=>simp [bx]
  |succ i=>
   refine ⟨v,q.take (i *size),?_,h1,h2,ih i h3⟩;rw [acP,Nat.one_mul,afM,ahx,h1];congr 1
   ·exact aaI (by omega)
   ·congr 1;omega
theorem bx.drop {xs:List MV}: ∀{cs:List Value}(i:Nat),bx key φ size cs xs->bx key φ size (cs.drop (i *size)) (xs.drop i):=by
 induction xs with
 |nil=>intro cs i h;cases h;simp [bx]
 |cons x xs ih=>
  intro cs i h;cases i with
  |zero=>simpa using h
  |succ i=>obtain ⟨v,q,rfl,h1,h2,h3⟩:=h;have:=ih i h3;rw [acP,Nat.one_mul,afM,List.drop_append,h1,agC (by omega),ae4,Nat.add_sub_cancel_left];simpa using this
end
section
variable {P:Program}{c:Ctx}{f:Nat} {W W':World} {φ:Ph}{Z:Nat->Prop} {v0 v':Value}
theorem Hn {ty:Nat}{E:TI}{n:Nat}{cells:List Value}{rs:List MV}(hz: ∀b,W.heap.size<=b->Z b)(kb:Co φ W)(hE:c.ti ty=some E)(rP:E.du=[])(Fj:c.sf (c.key f)=ty)(hold: ∀b,b<W.heap.size->some b≠v0.ownBlock->W'.heap[b]? =W.heap[b]?)(wu:W.heap.size<=W'.heap.size)(Ct:Rest W W')(R7: ∀b,v0.ownBlock=some b->Z b/\ ∀off,φ b off=none)(eS:W'.ownsRow 0 ty E.size v' n cells)(hn:rs.length=n)(km:bx c.key φ E.size cells rs)(SF: ∀b,v'.ownBlock=some b->v0.ownBlock=some b\/W.heap.size<=b): ∃φ',Trans Z φ W φ' W'/\Co φ' W'/\ng c Z φ' W' (c.key f) v' (.fresh rs):=by
 refine ⟨φ,⟨.refl _,?_,λ_ _ _=>rfl,wu,Ct⟩,?_,?_⟩
 ·intro b hb dK;exact hold b dK (λhe=>hb (R7 b he.symm).1)
 ·intro b off u hbo;have h1:=kb b off u hbo;have dK:=aaK W _ h1;rw [acO (hold b dK (λhe=>by rw [(R7 b he.symm).2 off] at hbo;cases hbo))];exact h1
 ·show dH c (cb.plain Z) (qg c.key φ) W' v' ⟨c.sf (c.key f),false,rs⟩;rw [Fj];refine ⟨E,cells,hE,rP,by rw [hn];exact eS,km,λbB hb=> ?_⟩;rcases SF bB hb with h|h
  ·exact ⟨(R7 bB h).1,λoff u hu=>(by have hu:φ bB off=some u:=hu;rw [(R7 bB h).2 off] at hu;cases hu),λhc=>hc.elim⟩
  ·refine ⟨hz bB h,λoff u hu=> ?_,λhc=>hc.elim⟩;have:=aaK W _ (kb _ _ _ hu);exact absurd this (by show¬bB<W.heap.size;omega)
theorem adW {A dL:List Value}{cells news:List Value}{p q r:Nat}(hA:A.length=dL.length)(hp:p+news.length=q)(hc:cells.length=r)(H8:p<=r)(zu:r+news.length<=dL.length)(h1:A.take p=cells.take p)(h2:(A.drop q).take (r-p)=cells.drop p):(A.take p++news++A.drop q).take (r+news.length)=cells.take p++news++cells.drop p:=by
 have hl:(A.take p).length=p:=by rw [AS];omega
 rw [ahx,AI,hl,hp,aaI (by rw [AI,hl];omega),h1];congr 1;rw [show r+news.length-q=r-p by omega];exact h2
theorem Fk {t ti tb el fo:Nat}{fn:Func}{r:Nat->Nat}{o:Nat->Oper}{tail:Code}{I E:TI}{xs ys:List MV}{i:Nat}(hf:IM P f t ti tb el fo fn r o tail)(hT:lV P c.ti)(hI:c.tv t=some I)(hL:I.Dd=true)(hE:c.tv I.elem=some E)(wj:1<=E.bytes)(hel:el=I.elem)(uC:P.underlying ti=some (.int .i64))(Fj:c.sf (c.key f)=I.elem)(hg:c.fe (c.key f)=true)(hov: ∀args w,(callFunc fo args).run P w=((ahB #[t,t] #[tb] args).run P w).andThen λv w'=> .ok (.value v) w')(hi:i<=xs.length)(hys:ys≠[])(oN:(xs.length+ys.length) *E.bytes<=2^46):lY P c f [.fresh xs,.i .i64 i,.fresh ys] (.fresh (xs.take i++ys++xs.drop i)):=by
 subst hel;obtain ⟨hIt,Y1⟩:=cc hI;obtain ⟨oR,rP⟩:=cc hE;obtain ⟨hu,E2,zJ,_,fg⟩:=TI.nZ (hT t I hIt) hL;rw [oR] at zJ;cases zJ;obtain ⟨ie,z,oQ,vP,hby,hz0,SI⟩:=sV (hT _ E oR) rP;intro φ W Z vs hz gn kb;simp only [fU,hg,if_true] at gn;obtain ⟨v0,v1,v2,xs',m1,ys',rfl,Ww,F0,A1,F2,dG⟩:=gn.resolve_right (by
  rintro (⟨_,_,_,_,_,m2,_,h1,h2,_⟩|⟨pos,_,_,_,_,_,_,h1,_⟩)
  ·simp only [adj,and_true] at h1;rw [<-h1.2.2] at h2;simp [MV.one] at h2
  ·rcases pos with _|_|_|pos<;>simp at h1)
 simp only [adj,MV.fresh.injEq,and_true] at Ww;obtain ⟨rfl,rfl,rfl⟩:=Ww;have Wc:v1= .int .i64 (i:Int):=by obtain ⟨_,h⟩:=A1;generalize Cj:[v1]=l at h;cases h;simpa using Cj
 subst Wc;rw [Fj] at F0 F2;obtain ⟨I0,cells,hI0,_,wI,u6,Md⟩:=F0;have hI0:c.ti I.elem=some I0:=hI0;rw [oR] at hI0;cases hI0;obtain ⟨I2,news,R3,_,LH,Dt,arQ⟩:=F2;have R3:c.ti I.elem=some I2:=R3;rw [oR] at R3;cases R3;have wI:W.ownsRow 0 I.elem E.size v0 xs.length cells:=wI;have LH:W.ownsRow 0 I.elem E.size v2 ys.length news:=LH;have u6:bx c.key φ E.size cells xs:=u6;have Dt:bx c.key φ E.size news ys:=Dt;have R7: ∀b,v0.ownBlock=some b->Z b/\ ∀off,φ b off=none:=by
  intro b hb;refine ⟨(Md b hb).1,λoff=> ?_⟩;cases h:φ b off with
  |none=>rfl
  |some u=>have:=((Md b hb).2.1 off u h).1;cases this
 have hm:0<ys.length:=List.length_pos_iff.2 hys;have Hk:news.length=ys.length *E.size:=Dt.length;have r8:cells.length=xs.length *E.size:=u6.length;have hlen:xs.length+ys.length<=2^46:=acM (Nat.le_mul_of_pos_right _ wj) oN;obtain ⟨g2,c2,wz,rfl,S4,atG,hc2,Nq,aly⟩: ∃g2 c2 wz,v2= .slice (some ⟨g2,0,none⟩) ys.length c2/\W.heap[g2]? =some (.cells wz I.elem (0,0))/\ys.length<=c2/\c2<=maxLen/\wz.size=c2 *E.size/\wz.toList.take (ys.length *E.size)=news:=by
  rcases LH.2 with ⟨_,h0⟩|⟨g2,c2,wz,h1,_,h3,h4,h5,h6,h7⟩
  ·omega
  ·exact ⟨g2,c2,wz,h1,h3,h4,h5,h6,h7⟩
 have apj:=bZ S4;have aam: ∀{w:World},(w.heap[g2]? =W.heap[g2]?)-> ∀(j:Nat) (u:Value),news[j]? =some u->w.cell? ((⟨g2,0,none⟩:Addr).add j)=some u:=by intro w hw j u hj;have:=LH.cells (g:=g2) rfl j u hj;rw [adb] at this⊢;rw [acO hw];exact this
 have bT: ∀g,v0.ownBlock=some g-> ∀{w:World},(w.heap[g]? =W.heap[g]?)-> ∀(j:Nat) (u:Value),cells[j]? =some u->w.cell? ((⟨g,0,none⟩:Addr).add j)=some u:=by intro g hg w hw j u hj;have:=wI.cells (g:=g) hg j u hj;rw [adb] at this⊢;rw [acO hw];exact this
 have cC:(callFunc f [v0,.int .i64 (i:Int),.slice (some ⟨g2,0,none⟩) ys.length c2].toArray).run P W= .ok (.enter f #[v0,.int .i64 (i:Int),.slice (some ⟨g2,0,none⟩) ys.length c2]) W:=by
  have GM: ¬fn.name= "runtime.NumGoroutine" :=by simpa using hf.name
  simp [callFunc,hf.pos,GM,hf.body]
 unfold ia;rw [cC];have hrl:(xs.take i++ys++xs.drop i).length=xs.length+ys.length:=by simp;omega
 have IP:bx c.key φ E.size (cells.take (i *E.size)++news++cells.drop (i *E.size)) (xs.take i++ys++xs.drop i):=((u6.take i).append Dt).append (u6.drop i);by_cases vI:i=xs.length
 ·
  have B2:Src (qg c.key φ) W E.size (.slice (some ⟨g2,0,none⟩) ys.length c2) ys news:=⟨Dt,_,_,rfl,by simp,λx hx j u hj=>by cases hx;exact aam rfl j u hj⟩
  have z6:cells.take (i *E.size)++news++cells.drop (i *E.size)=cells++news:=by rw [vI,<-r8,ags,List.drop_length,ahE]
  rw [z6] at IP;have fin: ∀v' W',akh W W' I.elem E.size v0 v' xs.length ys.length cells news-> ∃φ',Trans Z φ W φ' W'/\Co φ' W'/\ng c Z φ' W' (c.key f) v' (.fresh (xs.take i++ys++xs.drop i)):=by
   intro v' W' wB;refine Hn (v0:=v0) hz kb oR rP Fj wB.Bg wB.size wB.rest R7 wB.own hrl IP ?_;intro b hb;rcases wB.place with h|h
   ·left;rw [<-h];exact hb
   ·right;rw [h] at hb;cases hb;exact aaa _
  obtain ⟨v',W',hr,wB⟩:=CL (P:=P) (c:=c) (ty:=0) hu oR rP fg hT wj wI (B2.apx hu) oN;have hr': ∀ty,(acK #[t,t] ty #[v0,.slice (some ⟨g2,0,none⟩) ys.length c2]).run P W= .ok v' W':=λty=>hr;have apk: ∃ad c0,v0= .slice ad xs.length c0/\xs.length<=c0/\c0<=maxLen:=by
   rcases wI.2 with ⟨h1,h0⟩|⟨g,c0,dL,h1,_,h3,h4,h5,_⟩
   ·exact ⟨none,0,by rw [h1,h0],by omega,by omega⟩
   ·exact ⟨_,c0,h1,h4,h5⟩
  obtain ⟨ad,c0,rfl,PB,Hi⟩:=apk;refine (adV hf oQ vP hm PB (by unfold maxLen at Hi;omega) (by omega) vI hr').mono ?_;rintro x Bf ⟨rfl,rfl⟩;exact ⟨_,rfl,fin _ _ wB⟩
 ·have vI:i<xs.length:=by omega
  obtain ⟨g,c0,dL,rfl,hgc,PB,Hi,xz,R4⟩: ∃g c0 dL,v0= .slice (some ⟨g,0,none⟩) xs.length c0/\W.heap[g]? =some (.cells dL I.elem (0,0))/\xs.length<=c0/\c0<=maxLen/\dL.size=c0 *E.size/\dL.toList.take (xs.length *E.size)=cells:=by
   rcases wI.2 with ⟨_,h0⟩|⟨g,c0,dL,h1,_,h3,h4,h5,h6,h7⟩
   ·omega
   ·exact ⟨g,c0,dL,h1,h3,h4,h5,h6,h7⟩
  have hgl:=bZ hgc;have hgg:g≠g2:=λh=>dG g rfl (by rw [h];rfl);have uX:i *E.size<=xs.length *E.size:=ab1 _ hi;have him:(i+ys.length) *E.size=i *E.size+news.length:=by rw [acP,Hk]
  have hnm:(xs.length+ys.length) *E.size=xs.length *E.size+news.length:=by rw [acP,Hk]
  have LW:(cells.drop (i *E.size)).length=(xs.length-i) *E.size:=by rw [aaG,r8,aeH]
  have atH:(xs.length-i) *E.size=xs.length *E.size-i *E.size:=aeH _ _ _;have agn: ∀{w:World},(w.heap[g]? =W.heap[g]?)-> ∀(j:Nat) (u:Value),(cells.drop (i *E.size))[j]? =some u->w.cell? ((⟨g,i *E.size,none⟩:Addr).add j)=some u:=by intro w hw j u hj;rw [acC] at hj;have:=bT g rfl hw _ u hj;rw [adb] at this⊢;rwa [aew] at this
  have ho1: ∀u∈cells.drop (i *E.size),u.oneCell'=true:=λu hu=>u6.CK u (aeI hu);have alB:Rest W {W with drawn:=W.drawn+1}:=⟨rfl,rfl,rfl,λ_=>rfl⟩
  by_cases uS:c0<xs.length+ys.length
  ·have hk:i+(xs.length+ys.length-i)=xs.length+ys.length:=by omega
   obtain ⟨G,hG⟩: ∃G,G=grownCap W (xs.length+ys.length) c0 I.elem:=⟨_,rfl⟩
   have hGn:xs.length+ys.length<=G:=by rw [hG];exact grownCap_ge W _ _ _
   have hGm:G<=maxLen:=by rw [hG];exact grownCap_le_maxLen W _ _ _ (by unfold maxLen;omega)
   obtain ⟨NL,aid⟩: ∃NL:Array Value,NL=(cells.take (i *E.size)).toArray++abG z.cells (xs.length+ys.length-i)++abG z.cells (G-(xs.length+ys.length)):=⟨_,rfl⟩
   have hRl:NL.size=G *E.size:=by rw [aid];simp only [Array.size_append,abH,AS,abG,Array.size_map,Array.size_range,SI];rw [acL (by rw [r8];exact uX),<-acP,<-acP];congr 1;omega
   have hRt:NL.toList.take (i *E.size)=cells.take (i *E.size):=by
    rw [aid];simp only [Array.toList_append,acQ];have hl:(cells.take (i *E.size)).length=i *E.size:=by rw [AS,r8];exact acL uX
    rw [aai (by omega),aaI (by omega)]
   have hA: ∀ty,(acK #[t,ti] ty #[.slice (some ⟨g,0,none⟩) i c0,.int .i64 ((xs.length+ys.length-i:Nat):Int)]).run P W= .ok (.slice (some ⟨W.heap.size,0,none⟩) (xs.length+ys.length) G) (W.drew.alloc (.cells NL I.elem)):=λty=>by
    have hold:(ahk ie.size i (.slice (some ⟨g,0,none⟩) i c0)).run P W.drew= .ok (cells.take (i *E.size)).toArray W.drew:=by
     refine run_firstCells_some W.drew ie.size i ⟨g,0,none⟩ i c0 _ (by rw [vP,AS,r8];exact acL uX) (λj v hj=> ?_);rw [aec] at hj;split at hj
     ·exact bT g rfl rfl j v hj
     ·cases hj
    have h:=Lib.run_append_grow_zeros W t ti ty I.elem ie z .i64 .i64 hu uC oQ hz0 (some ⟨g,0,none⟩) i c0 (cells.take (i *E.size)) hold (xs.length+ys.length-i) (by omega) (by rw [vP];exact fg) (by omega) (by omega) (by rw [hby];exact acM (ab1 _ (by omega:xs.length+ys.length-i<=xs.length+ys.length)) (acM oN (by omega))) (by rw [hby,hk];exact growslice_fits uS (acM oN (by omega)));rw [hk,<-hG,<-aid] at h;exact h
   have hg9:(W.drew.alloc (.cells NL I.elem)).heap[W.heap.size]? =some (.cells NL I.elem (0,0)):=nK W.drew _;have GP: ∀b,b<W.heap.size->(W.drew.alloc (.cells NL I.elem)).heap[b]? =W.heap[b]? :=λb hb=>Bd W.drew _ b hb;have hnG:(xs.length+ys.length) *E.size<=NL.size:=by rw [hRl];exact ab1 _ hGn
   obtain ⟨RA,hRA⟩: ∃RA:List Value,RA=NL.toList.take (i *E.size)++news++NL.toList.drop (i *E.size+news.length):=⟨_,rfl⟩
   have alC:RA.length=NL.size:=by rw [hRA];simp only [AI,AS,aaG,aaf];omega
   have hB: ∀ty,(acG #[t,t] ty #[.slice (some ⟨W.heap.size,i *E.size,none⟩) (xs.length+ys.length-i) (G-i),.slice (some ⟨g2,0,none⟩) ys.length c2]).run P (W.drew.alloc (.cells NL I.elem))= .ok (goInt ((ys.length:Nat):Int)) (acR (W.drew.alloc (.cells NL I.elem)) W.heap.size RA.toArray):=λty=>by rw [hRA];exact qD (size:=E.size) hu oQ vP hg9 (by simp only [ag8];split<;>omega) Hk (aam (GP g2 apj)) (by omega) Dt.CK
   have aie:=setRow_heap (W.drew.alloc (.cells NL I.elem)) W.heap.size NL RA.toArray I.elem (0,0) hg9;obtain ⟨W2,WW⟩: ∃W2,W2=acR (W.drew.alloc (.cells NL I.elem)) W.heap.size RA.toArray:=⟨_,rfl⟩
   have adZ: ∀b,b<W.heap.size->W2.heap[b]? =W.heap[b]? :=λb hb=>by rw [WW,setRow_other _ _ _ _ (by omega)];exact GP b hb
   have Th:Rest W W2:=by rw [WW];exact (show Rest W W.drew from ⟨rfl,rfl,rfl,λ_=>rfl⟩).trans ((Rest.alloc W.drew NL I.elem).trans (Rest.setRow _ _ _))
   have atL:W2.heap.size=W.heap.size+1:=by rw [WW,setRow_size];exact Array.size_push _
   rw [<-WW] at hB aie;have hC:=λty=>qD (P:=P) (dT:=t) (sT:=t) (ty:=ty) (size:=E.size) (adU:=xs.length+ys.length-(i+ys.length)) (ah8:=G-(i+ys.length)) (qf:=xs.length-i) (zY:=c0-i) (k:=xs.length-i) (o:=(i+ys.length) *E.size) (a:=⟨g,i *E.size,none⟩) (w:={W2 with drawn:=W2.drawn+1}) hu oQ vP aie (by simp only [ag8];split<;>omega) LW (agn (adZ g hgl)) (by simp only [abH];rw [alC,him,LW];omega) ho1;refine (aak hf oQ vP hm PB (by unfold maxLen at Hi;omega) (by omega) vI uS hGn hA hB hC).mono ?_;rintro x Bf ⟨rfl,rfl⟩;refine ⟨_,rfl,?_⟩;refine Hn (v0:= .slice (some ⟨g,0,none⟩) xs.length c0) (n:=xs.length+ys.length) (cells:=cells.take (i *E.size)++news++cells.drop (i *E.size)) hz kb oR rP Fj ?_ ?_ ?_ R7 ?_ hrl IP (λb hb=> .inr (by cases hb;exact aaa _))
   ·intro b hb dG;rw [setRow_other _ _ _ _ (by omega)];exact adZ b hb
   ·rw [setRow_size];show W.heap.size<=W2.heap.size;omega
   ·exact Th.trans ((show Rest W2 {W2 with drawn:=W2.drawn+1} from ⟨rfl,rfl,rfl,λ_=>rfl⟩).trans (Rest.setRow _ _ _))
   ·refine ⟨by rw [IP.length,hrl],.inr ⟨W.heap.size,G,_,rfl,acF _,setRow_heap {W2 with drawn:=W2.drawn+1} W.heap.size RA.toArray _ I.elem (0,0) aie,hGn,hGm,?_,?_⟩⟩
    ·simp only [abH,AI,AS,aaG];rw [alC,<-hRl];omega
    ·have apo:RA.take ((i+ys.length) *E.size)=cells.take (i *E.size)++news:=by
      have hl:(NL.toList.take (i *E.size)++news).length=(i+ys.length) *E.size:=by rw [AI,AS,aaf,him];omega
      rw [hRA,aai (by omega),aaI (by omega),hRt]
     rw [apo];have sr:(cells.take (i *E.size)++news++cells.drop (i *E.size)).length=(xs.length+ys.length) *E.size:=by rw [IP.length,hrl]
     rw [<-sr];exact ag9
  ·have uS:xs.length+ys.length<=c0:=by omega
   have hcz:dL.toList.length=dL.size:=aaf;have zu:(xs.length+ys.length) *E.size<=dL.size:=by rw [xz];exact ab1 _ uS
   have hO:(callFunc fo #[.slice (some ⟨g2,0,none⟩) ys.length c2,.slice (some ⟨g,(i+ys.length) *E.size,none⟩) (xs.length+ys.length-(i+ys.length)) (c0-(i+ys.length))]).run P W= .ok (.value (.bool false)) W:=by rw [hov,Lib.run_overlaps_apart W t tb I.elem hu E.size (λw=>by simp [afR,typeInfo,oQ,vP]) ⟨g2,0,none⟩ ⟨g,(i+ys.length) *E.size,none⟩ _ _ _ _ (ahK hgg) I.elem I.elem wz.size dL.size (by simp [World.shape?,S4]) (by simp [World.shape?,hgc]) (by rw [xz];exact Nat.ne_of_gt (Nat.mul_pos (by omega) fg)) (by simp [ahR,S4]) (by simp [ahR,S4])];rfl
   let R1:List Value:=dL.toList.take ((i+ys.length) *E.size)++cells.drop (i *E.size)++dL.toList.drop ((i+ys.length) *E.size+(cells.drop (i *E.size)).length);have hR1:R1.length=dL.size:=by simp only [R1,AI,AS,aaG,aaf];rw [LW] at *;omega
   have hB: ∀ty,(acG #[t,t] ty #[.slice (some ⟨g,(i+ys.length) *E.size,none⟩) (xs.length+ys.length-(i+ys.length)) (c0-(i+ys.length)),.slice (some ⟨g,i *E.size,none⟩) (xs.length+ys.length-i) (c0-i)]).run P {W with drawn:=W.drawn+1}= .ok (goInt ((xs.length-i:Nat):Int)) (acR {W with drawn:=W.drawn+1} g R1.toArray):=λty=>qD (size:=E.size) hu oQ vP (w:={W with drawn:=W.drawn+1}) hgc (by simp only [ag8];split<;>omega) LW (agn rfl) (by rw [him,LW];omega) ho1;have apr:(acR {W with drawn:=W.drawn+1} g R1.toArray).heap[g]? =some (.cells R1.toArray I.elem (0,0)):=setRow_heap {W with drawn:=W.drawn+1} g dL R1.toArray I.elem (0,0) hgc;have adZ: ∀b,b≠g->(acR {W with drawn:=W.drawn+1} g R1.toArray).heap[b]? =W.heap[b]? :=λb hb=>setRow_other {W with drawn:=W.drawn+1} g b R1.toArray hb;have hC:=λty=>qD (P:=P) (dT:=t) (sT:=t) (ty:=ty) (size:=E.size) (adU:=xs.length+ys.length-i) (ah8:=c0-i) (qf:=ys.length) (zY:=c2) (k:=ys.length) (o:=i *E.size) (a:=⟨g2,0,none⟩) hu oQ vP apr (by simp only [ag8];split<;>omega) Hk (aam (adZ g2 (ahK hgg))) (by simp only [abH];rw [hR1];omega) Dt.CK;refine (aal hf oQ vP hm PB (by unfold maxLen at Hi;omega) (by omega) vI uS hO hB hC).mono ?_;rintro x Bf ⟨rfl,rfl⟩;refine ⟨_,rfl,?_⟩;rw [setRow_setRow];have Ct:Rest W (acR {W with drawn:=W.drawn+1} g (R1.toArray.toList.take (i *E.size)++news++R1.toArray.toList.drop (i *E.size+news.length)).toArray):=alB.trans (Rest.setRow _ _ _);refine Hn (v0:= .slice (some ⟨g,0,none⟩) xs.length c0) (n:=xs.length+ys.length) (cells:=cells.take (i *E.size)++news++cells.drop (i *E.size)) hz kb oR rP Fj ?_ (by simp) Ct R7 ?_ hrl IP (λb hb=> .inl hb)
   ·intro b hb dG;refine setRow_other {W with drawn:=W.drawn+1} g b _ (λh=>dG ?_);rw [h];rfl
   ·refine ⟨by rw [IP.length,hrl],.inr ⟨g,c0,_,rfl,acF _,setRow_heap {W with drawn:=W.drawn+1} g dL _ I.elem (0,0) hgc,uS,Hi,?_,?_⟩⟩
    ·simp only [abH,AI,AS,aaG];rw [hR1,<-xz];omega
    ·rw [hnm];refine adW (dL:=dL.toList) (r:=xs.length *E.size) (by simpa using hR1) rfl r8 uX (by simp only [aaf];omega) ?_ ?_
     ·show R1.take (i *E.size)=_;rw [<-R4,aey,acL uX];simp only [R1];rw [acQ,aai (by rw [AS,hcz];omega),aey,acL (by omega)]
     ·show (R1.drop (i *E.size+news.length)).take _=_;simp only [R1];have hl:(dL.toList.take ((i+ys.length) *E.size)).length=i *E.size+news.length:=by rw [AS,hcz];omega
      rw [acQ,<-hl,ahQ,aai (by omega),aaI (by omega)]
end
end Dn
/-
  slices.Delete of the library, walked. Conditions: none.
-/
namespace Dn
open Go
structure Gj (o:Oper) (op:Op):Prop where
 dst:o.dst=none
 op:o.op=op
 guard:o.guard=none
section
variable {P:Program}{Q:Exit->Act->World->Prop}{ops:Array Oper}{o:Oper}{a:Act} {w w':World}{n:Nat} {σ:Nat->Value}
theorem Tm.ago {i:Nat}{op:Op}{rest:List Nat}{v:Value}(aO:Tm a n σ)(hi:ops[i]? =some o)(ho:Gj o op)(cC:(execOp (ev σ) o).run P w= .ok (.value v) w')(h:wpOps P ops Q rest a w'):wpOps P ops Q (i::rest) a w:=by refine vO hi ho.guard (v:=v) (w':=w') (by rw [aO.eval];exact cC) ?_;rw [ho.dst];exact h
def IQ (ops:Array Oper):Nat->Nat->Array Bool->Bool
 |0,i,listed=>(AT .any ops listed==[i])&&(AT .any ops (listed.setIfInBounds i true)==[i+1])&&(AT .any ops ((listed.setIfInBounds i true).setIfInBounds (i+1) true)).isEmpty
 |k+1,i,listed=>Region.free .any ops listed i&&(AT .any ops listed).contains i&&IQ ops k (i+1) (listed.setIfInBounds i true)
def Ti (ops:Array Oper):Bool:=afF ops&&Nat.blt 1 ops.size&&IQ ops (ops.size-2) 0 (IS ops.size false)
structure NM (ops:Array Oper) (k i:Nat) (listed:Array Bool):Prop where
 sel:afF ops=true
 ord:IQ ops k i listed=true
theorem Tm.Me {N:Act->World->Prop}{i d:Nat}{op:Op}{k:Nat}{listed:Array Bool}{v:Value}(aO:Tm a n σ)(hi:ops[i]? =some o)(ho:ba o d op)(hd:d<n)(hb:NM ops (k+1) i listed)(cC: ∀w,(execOp (ev σ) o).run P w= .ok (.value v) w)(h: ∀a',Tm a' n (Ab σ d v)->NM ops k (i+1) (listed.setIfInBounds i true)->wpAny P .any ops (qi N) (k+2) (listed.setIfInBounds i true) a' w):wpAny P .any ops (qi N) (k+3) listed a w:=by obtain ⟨hs,hb⟩:=hb;simp only [IQ,sh] at hb;obtain ⟨⟨h1,h2⟩,h3⟩:=hb;refine wpAny_take hi hs h1 h2 (λc a w hq=>hq.elim) (v:=v) (.inl ⟨by simp [OF,ho.guard],λw=>by rw [aO.eval];exact cC w⟩) ?_;rw [ho.dst];exact h _ (aO.put hd v) ⟨hs,h3⟩
theorem Tm.alD {N:Act->World->Prop}{i d d2:Nat}{op op2:Op}{o2:Oper}{listed:Array Bool}{v v2:Value}(aO:Tm a n σ)(hi:ops[i]? =some o)(ho:ba o d op)(hd:d<n)(Yh:ops[i+1]? =some o2)(dh:ba o2 d2 op2)(Ym:d2<n)(hb:NM ops 0 i listed)(cC:(execOp (ev σ) o).run P w= .ok (.value v) w')(Ma:(execOp (ev (Ab σ d v)) o2).run P w'= .ok (.value v2) w')(h: ∀a',Tm a' n (Ab (Ab σ d v) d2 v2)->N a' w'):wpAny P .any ops (qi N) 2 listed a w:=by obtain ⟨hs,hb⟩:=hb;simp only [IQ,sh,List.isEmpty_iff,beq_iff_eq] at hb;obtain ⟨⟨h1,h2⟩,h3⟩:=hb;refine wpAny_all h1 (by simp) ?_;intro j hj;simp only [afU] at hj;subst hj;unfold wpOp;simp only [hi,OF,ho.guard,if_true];left;unfold afK;rw [aO.eval,cC,adQ,ho.dst];have aan:=aO.put hd v;refine wpAny_all h2 (by simp) ?_;intro q hq;simp only [afU] at hq;subst hq;unfold wpOp;simp only [Yh,OF,dh.guard,if_true];left;unfold afK;rw [aan.eval,Ma,adQ,dh.dst];exact wpAny_done h3 (h _ (aan.put Ym v2)) 0
theorem aao {id k:Nat}(hm:P.follows .mixedOrders=true)(hb:Ti ops=true)(hk:ops.size=k+2)(h:NM ops k 0 (IS (k+2) false)->wpAny P .any ops (qi λa w=>Q .normal a w) (k+2) (IS (k+2) false) a {w with drawn:=w.drawn+1}): (age id ops true).wp P Q a w:=by simp only [Ti,sh] at hb;rw [hk] at hb;refine agy ?_ (wp_region_any (Q:=qi λa w=>Q .normal a w) hm (by rw [hk];exact h ⟨hb.1.1,hb.2⟩));intro x a' w' hx;cases x<;>first|exact hx|exact hx.elim
theorem Mf {d:Nat}{t el:TypeId}{x y z m3:Operand}{e:Operand->Value}{ad:Option Addr}{m c l h k:Nat}{i:TypeInfo}(ho:ba o d (.slice t x (some y) (some z) (some m3)))(hu:P.underlying t=some (.slice el))(hi:P.info? el=some i)(hx:e x= .slice ad m c)(hy:e y= .int .i64 l)(hz:e z= .int .i64 h)(hm:e m3= .int .i64 k)(h1:l<=h)(h2:h<=k)(h3:k<=c)(w:World):(execOp e o).run P w= .ok (.value (.slice (if k=l then ad else ad.map (·.add (l *i.size))) (h-l) (k-l))) w:=by simp [execOp,ho.op,agj,ag7,run_underlying hu,hx,hy,hz,hm,afR,typeInfo,hi,aeh,aeF,asIntOf,h1,h2,h3]
theorem Qa {d:Nat}{t el:TypeId}{x y z:Operand}{e:Operand->Value}{ad:Option Addr}{m c l h size:Nat}{i:TypeInfo}(ho:ba o d (.slice t x (some y) (some z) none))(hu:P.underlying t=some (.slice el))(hi:P.info? el=some i)(hs:i.size=size)(hx:e x= .slice ad m c)(hy:e y= .int .i64 l)(hz:e z= .int .i64 h)(h1:l<=h)(h2:h<=c)(w:World):(execOp e o).run P w= .ok (.value (.slice (if c=l then ad else ad.map (·.add (l *size))) (h-l) (c-l))) w:=by simp [execOp,ho.op,agj,ag7,run_underlying hu,hx,hy,hz,afR,typeInfo,hi,hs,aeh,aeF,asIntOf,h1,h2]
theorem Ve {x:Operand}{t1:TypeId}{e:Operand->Value}{v1 v:Value}(ho:Gj o (.call {callee:= .builtin .clear,args:= #[x],argTypes:= #[t1]})) (hx:e x=v1) (h:(aez #[t1] o.type #[v1]).run P w= .ok v w'):(execOp e o).run P w= .ok (.value v) w':=by simp [execOp,ho.op,resolve,invoke,builtin,hx,h]
theorem Ae {t ty elem t2:TypeId}{g off n c size:Nat}{z:Value}{dL:Array Value}{i:TypeInfo}(hu:P.underlying t=some (.slice elem))(hi:P.info? elem=some i)(hz:i.zero=some z)(SI:z.cells.size=size)(h1: ∀v∈z.cells.toList,v.oneCell'=true)(hg:w.heap[g]? =some (.cells dL t2 (0,0)))(hn:0<n)(zu:off+n *size<=dL.size): ∃zs:List Value,zs.length=n *size/\(aez #[t] ty #[.slice (some ⟨g,off,none⟩) n c]).run P w= .ok (.tuple #[]) (w.setRow g (dL.toList.take off++zs++dL.toList.drop (off+zs.length)).toArray):=by
 refine ⟨(abG z.cells n).toList,?_,?_⟩
 ·simp [abG,SI]
 ·have hl:(abG z.cells n).toList.length=n *size:=by simp [abG,SI]
  have eR:=run_storeCells_at P g off t2 (abG z.cells n).toList 0 dL w hg (by rw [hl];simpa using zu) (by
   intro v hv;simp only [abG,agl,aa5,Array.mem_toList_iff,Array.mem_range] at hv;obtain ⟨j,hj,rfl⟩:=hv;have fg:0<z.cells.size:=by
    rcases Nat.eq_zero_or_pos z.cells.size with h0|h0
    ·rw [h0] at hj;omega
    ·exact h0
   have dK:j%z.cells.size<z.cells.size:=Nat.mod_lt _ fg;rw [getElem!_pos z.cells _ dK];exact h1 _ (by simp))
  simp only [aib] at eR;obtain ⟨m,rfl⟩: ∃m,n=m+1:=⟨n-1,by omega⟩
  simp [aez,run_underlying hu,zeroValue,typeInfo,hi,hz,eR]
end
theorem wJ {w:World}{g:Nat}{dL:Array Value}{t:TypeId}{fr:Nat×Nat}(cs:Array Value)(hg:w.heap[g]? =some (.cells dL t fr)):(w.setRow g cs).heap[g]? =some (.cells cs t fr):=by simp [acR,agF,hg]
def DM (r:Nat->Nat)(o:Nat->Oper):Code:= .seq (.region (r 0) #[o 0] false) (.seq (.region (r 1) #[o 1,o 2,o 3,o 4,o 5,o 6] false) (.seq (.seq (.region (r 2) #[o 7,o 8,o 9] false) (.cond (.tmp 16) (.seq (.region (r 3) #[o 10,o 11] false) .ret) .skip)) (.seq (.region (r 4) #[o 12,o 13,o 14] false) (.seq (.region (r 5) #[o 15,o 16,o 17,o 18,o 19,o 20,o 21,o 22] true) (.seq (.region (r 6) #[o 23,o 24,o 25,o 26,o 27,o 28] false) (.seq (.region (r 7) #[o 29,o 30] false) .ret))))))
structure aif (t ti:Nat) (o:Nat->Oper):Prop where
 h0:ba (o 0) 6 (.assign (.const (.slice none 0 0)))
 h1:ba (o 1) 8 (.move (.tmp 0))
 h2:ba (o 2) 9 (.move (.tmp 1))
 h3:ba (o 3) 10 (.move (.tmp 2))
 h4:ba (o 4) 11 (.move (.tmp 0))
 h5:ba (o 5) 12 (.call {callee:= .builtin .len,args:= #[.tmp 11],argTypes:= #[t]})
 h6:ba (o 6) 13 (.slice t (.tmp 8) (some (.tmp 9)) (some (.tmp 10)) (some (.tmp 12)))
 h7:ba (o 7) 14 (.move (.tmp 1))
 h8:ba (o 8) 15 (.move (.tmp 2))
 h9:ba (o 9) 16 (.binOp .eql ti (.tmp 14) (.tmp 15) ti)
 UZ:ba (o 10) 17 (.move (.tmp 0))
 Tc:ba (o 11) 6 (.assign (.tmp 17))
 Td:ba (o 12) 18 (.move (.tmp 0))
 Te:ba (o 13) 19 (.call {callee:= .builtin .len,args:= #[.tmp 18],argTypes:= #[t]})
 Tf:ba (o 14) 7 (.assign (.tmp 19))
 O5:ba (o 15) 20 (.move (.tmp 0))
 Tg:ba (o 16) 21 (.move (.tmp 1))
 h17:ba (o 17) 22 (.slice t (.tmp 20) none (some (.tmp 21)) none)
 h18:ba (o 18) 23 (.move (.tmp 0))
 h19:ba (o 19) 24 (.move (.tmp 2))
 h20:ba (o 20) 25 (.slice t (.tmp 23) (some (.tmp 24)) none none)
 h21:ba (o 21) 26 (.call {callee:= .builtin .append,args:= #[.tmp 22,.tmp 25],argTypes:= #[t,t]})
 h22:ba (o 22) 0 (.assign (.tmp 26))
 h23:ba (o 23) 27 (.move (.tmp 0))
 h24:ba (o 24) 28 (.move (.tmp 0))
 h25:ba (o 25) 29 (.call {callee:= .builtin .len,args:= #[.tmp 28],argTypes:= #[t]})
 h26:ba (o 26) 30 (.move (.tmp 7))
 h27:ba (o 27) 31 (.slice t (.tmp 27) (some (.tmp 29)) (some (.tmp 30)) none)
 h28:Gj (o 28) (.call {callee:= .builtin .clear,args:= #[.tmp 31],argTypes:= #[t]})
 h29:ba (o 29) 32 (.move (.tmp 0))
 h30:ba (o 30) 6 (.assign (.tmp 32))
 d5:Ti #[o 15,o 16,o 17,o 18,o 19,o 20,o 21,o 22]=true
structure Qb (P:Program) (f t ti el:Nat) (fn:Func) (r:Nat->Nat) (o:Nat->Oper):Prop where
 pos:P.funcs[f]? =some fn
 name:(fn.name== "runtime.NumGoroutine")=false
 tmps:fn.ntmps=33
 res:fn.results= #[.tmp 6]
 body:fn.body=some (DM r o)
 ops:aif t ti o
 mix:P.follows .mixedOrders=true
 xB:P.underlying t=some (.slice el)
section
variable {P:Program}{f t ti el:Nat}{fn:Func}{r:Nat->Nat}{o:Nat->Oper}{ie:TypeInfo}{size n c i j g:Nat}{ad:Option Addr}{w:World}
theorem Vf {a:Act}{w:World} {σ:Nat->Value}{R:Ending->World->Prop}{v:Value}(hr:fn.results= #[.tmp 6])(aO:Tm a 33 σ)(h6:σ 6=v)(h:R (.returned v) w):bodyPost P fn R .ret a w:=by
 refine ⟨aO.defers,v,?_,h⟩;have h2:a.tmps[6]?.getD undef=v:=by have:=aO.get 6;rw [h6] at this;simpa using this
 simp [results,hr,h2]
theorem aap (hf:Qb P f t ti el fn r o)(oQ:P.info? el=some ie)(hn:n<=c)(hi:i<=n): Calls P f #[.slice ad n c,.int .i64 ((i:Nat):Int),.int .i64 ((i:Nat):Int)] w λx w'=>x= .returned (.slice ad n c)/\w'=w:=by
 refine calls_of_wp hf.pos hf.body ?_;rw [hf.tmps];have key: ∀a:Act,Tm a 33 (Ab (Ab (Ab (λ_=>undef) 0 (.slice ad n c)) 1 (.int .i64 ((i:Nat):Int))) 2 (.int .i64 ((i:Nat):Int)))->(DM r o).wp P (bodyPost P fn λx w'=>x= .returned (.slice ad n c)/\w'=w) a w:=by intro a aO;unfold DM;refine wp_seq (wp_region ?_);rw [show c8 (#[o 0]:Array Oper).size=[0] from rfl];refine aO.step (v:= .slice none 0 0) rfl hf.ops.h0 (by decide) (dy hf.ops.h0 _) (λa aO=> ?_);refine wp_seq (wp_region ?_);rw [show c8 (#[o 1,o 2,o 3,o 4,o 5,o 6]:Array Oper).size=[0,1,2,3,4,5] from rfl];refine aO.step (v:= .slice ad n c) rfl hf.ops.h1 (by decide) (aZ hf.ops.h1 _) (λa aO=> ?_);refine aO.step (v:= .int .i64 ((i:Nat):Int)) rfl hf.ops.h2 (by decide) (aZ hf.ops.h2 _) (λa aO=> ?_);refine aO.step (v:= .int .i64 ((i:Nat):Int)) rfl hf.ops.h3 (by decide) (aZ hf.ops.h3 _) (λa aO=> ?_);refine aO.step (v:= .slice ad n c) rfl hf.ops.h4 (by decide) (aZ hf.ops.h4 _) (λa aO=> ?_);refine aO.step (v:= .int .i64 ((n:Nat):Int)) rfl hf.ops.h5 (by decide) (nO hf.ops.h5 hf.xB rfl _) (λa aO=> ?_);refine aO.step rfl hf.ops.h6 (by decide) (Mf hf.ops.h6 hf.xB oQ rfl rfl rfl rfl (aaa _) hi hn _) (λa aO=> ?_);refine wp_seq ?_;refine wp_seq (wp_region ?_);rw [show c8 (#[o 7,o 8,o 9]:Array Oper).size=[0,1,2] from rfl];refine aO.step (v:= .int .i64 ((i:Nat):Int)) rfl hf.ops.h7 (by decide) (aZ hf.ops.h7 _) (λa aO=> ?_);refine aO.step (v:= .int .i64 ((i:Nat):Int)) rfl hf.ops.h8 (by decide) (aZ hf.ops.h8 _) (λa aO=> ?_);refine aO.step (v:= .bool (decide (((i:Nat):Int)=((i:Nat):Int)))) rfl hf.ops.h9 (by decide) (qC hf.ops.h9 rfl rfl _) (λa aO=> ?_);refine aO.cond (b:=true) (by show abT (decide (((i:Nat):Int)=((i:Nat):Int)))=_;rw [decide_eq_true rfl]) ?_;simp only [if_true];refine wp_seq (wp_region ?_);rw [show c8 (#[o 10,o 11]:Array Oper).size=[0,1] from rfl];refine aO.step (v:= .slice ad n c) rfl hf.ops.UZ (by decide) (aZ hf.ops.UZ _) (λa aO=> ?_);refine aO.step (v:= .slice ad n c) rfl hf.ops.Tc (by decide) (dy hf.ops.Tc _) (λa aO=> ?_);refine wp_ret ?_;show bodyPost P fn (λx wq=>x= .returned (.slice ad n c)/\wq=w) .ret a w;refine Vf hf.res aO (v:= .slice ad n c) rfl ?_;exact ⟨rfl,rfl⟩
 exact key _ (tm3 _ _ _ 30)
theorem aaq (hf:Qb P f t ti el fn r o)(oQ:P.info? el=some ie)(vP:ie.size=size)(hn:n<=c)(Nn:i<j)(hj:j<=n){w1 w2:World}(hA: ∀ty,(acK #[t,t] ty #[.slice (some ⟨g,0,none⟩) i c,.slice (if c=j then (some ⟨g,0,none⟩:Option Addr) else some ⟨g,j *size,none⟩) (n-j) (c-j)]).run P {w with drawn:=w.drawn+1}= .ok (.slice (some ⟨g,0,none⟩) (i+(n-j)) c) w1) (hC: ∀ty,(aez #[t] ty #[.slice (some ⟨g,(i+(n-j)) *size,none⟩) (n-(i+(n-j))) (c-(i+(n-j)))]).run P w1= .ok (.tuple #[]) w2): Calls P f #[.slice (some ⟨g,0,none⟩) n c,.int .i64 ((i:Nat):Int),.int .i64 ((j:Nat):Int)] w λx w'=>x= .returned (.slice (some ⟨g,0,none⟩) (i+(n-j)) c)/\w'=w2:=by
 refine calls_of_wp hf.pos hf.body ?_;rw [hf.tmps];have h0: ∀l:Nat,(⟨g,0,none⟩:Addr).add l=⟨g,l,none⟩:=λl=>by have:=adb g 0 l;rwa [aew] at this
 have key: ∀a:Act,Tm a 33 (Ab (Ab (Ab (λ_=>undef) 0 (.slice (some ⟨g,0,none⟩) n c)) 1 (.int .i64 ((i:Nat):Int))) 2 (.int .i64 ((j:Nat):Int)))->(DM r o).wp P (bodyPost P fn λx w'=>x= .returned (.slice (some ⟨g,0,none⟩) (i+(n-j)) c)/\w'=w2) a w:=by intro a aO;unfold DM;refine wp_seq (wp_region ?_);rw [show c8 (#[o 0]:Array Oper).size=[0] from rfl];refine aO.step (v:= .slice none 0 0) rfl hf.ops.h0 (by decide) (dy hf.ops.h0 _) (λa aO=> ?_);refine wp_seq (wp_region ?_);rw [show c8 (#[o 1,o 2,o 3,o 4,o 5,o 6]:Array Oper).size=[0,1,2,3,4,5] from rfl];refine aO.step (v:= .slice (some ⟨g,0,none⟩) n c) rfl hf.ops.h1 (by decide) (aZ hf.ops.h1 _) (λa aO=> ?_);refine aO.step (v:= .int .i64 ((i:Nat):Int)) rfl hf.ops.h2 (by decide) (aZ hf.ops.h2 _) (λa aO=> ?_);refine aO.step (v:= .int .i64 ((j:Nat):Int)) rfl hf.ops.h3 (by decide) (aZ hf.ops.h3 _) (λa aO=> ?_);refine aO.step (v:= .slice (some ⟨g,0,none⟩) n c) rfl hf.ops.h4 (by decide) (aZ hf.ops.h4 _) (λa aO=> ?_);refine aO.step (v:= .int .i64 ((n:Nat):Int)) rfl hf.ops.h5 (by decide) (nO hf.ops.h5 hf.xB rfl _) (λa aO=> ?_);refine aO.step rfl hf.ops.h6 (by decide) (Mf hf.ops.h6 hf.xB oQ rfl rfl rfl rfl (Nat.le_of_lt Nn) hj hn _) (λa aO=> ?_);refine wp_seq ?_;refine wp_seq (wp_region ?_);rw [show c8 (#[o 7,o 8,o 9]:Array Oper).size=[0,1,2] from rfl];refine aO.step (v:= .int .i64 ((i:Nat):Int)) rfl hf.ops.h7 (by decide) (aZ hf.ops.h7 _) (λa aO=> ?_);refine aO.step (v:= .int .i64 ((j:Nat):Int)) rfl hf.ops.h8 (by decide) (aZ hf.ops.h8 _) (λa aO=> ?_);refine aO.step (v:= .bool (decide (((i:Nat):Int)=((j:Nat):Int)))) rfl hf.ops.h9 (by decide) (qC hf.ops.h9 rfl rfl _) (λa aO=> ?_);refine aO.cond (b:=false) (by show abT (decide (((i:Nat):Int)=((j:Nat):Int)))=_;rw [decide_eq_false (by omega)]) ?_;simp only [By,if_false];refine wp_skip ?_;refine wp_seq (wp_region ?_);rw [show c8 (#[o 12,o 13,o 14]:Array Oper).size=[0,1,2] from rfl];refine aO.step (v:= .slice (some ⟨g,0,none⟩) n c) rfl hf.ops.Td (by decide) (aZ hf.ops.Td _) (λa aO=> ?_);refine aO.step (v:= .int .i64 ((n:Nat):Int)) rfl hf.ops.Te (by decide) (nO hf.ops.Te hf.xB rfl _) (λa aO=> ?_);refine aO.step (v:= .int .i64 ((n:Nat):Int)) rfl hf.ops.Tf (by decide) (dy hf.ops.Tf _) (λa aO=> ?_);refine wp_seq (aao hf.mix hf.ops.d5 (k:=6) rfl λir=> ?_);refine aO.Me (v:= .slice (some ⟨g,0,none⟩) n c) rfl hf.ops.O5 (by decide) ir (λw=>aZ hf.ops.O5 _) (λa aO ir=> ?_);refine aO.Me (v:= .int .i64 ((i:Nat):Int)) rfl hf.ops.Tg (by decide) ir (λw=>aZ hf.ops.Tg _) (λa aO ir=> ?_);refine aO.Me (v:= .slice (some ⟨g,0,none⟩) i c) rfl hf.ops.h17 (by decide) ir (λw=>DK hf.ops.h17 hf.xB oQ vP rfl rfl (by omega) _) (λa aO ir=> ?_);refine aO.Me (v:= .slice (some ⟨g,0,none⟩) n c) rfl hf.ops.h18 (by decide) ir (λw=>aZ hf.ops.h18 _) (λa aO ir=> ?_);refine aO.Me (v:= .int .i64 ((j:Nat):Int)) rfl hf.ops.h19 (by decide) ir (λw=>aZ hf.ops.h19 _) (λa aO ir=> ?_);refine aO.Me (v:= .slice (if c=j then (some ⟨g,0,none⟩:Option Addr) else some ⟨g,j *size,none⟩) (n-j) (c-j)) rfl hf.ops.h20 (by decide) ir (λw=>by refine (Ad (P:=P) hf.ops.h20 hf.xB oQ vP (ad:=some ⟨g,0,none⟩) (m:=n) (c:=c) (l:=j) rfl rfl hj w).trans ?_;rw [show (some (⟨g,0,none⟩:Addr)).map (·.add (j *size))=some ⟨g,j *size,none⟩ from congrArg some (h0 _)]) (λa aO ir=> ?_);refine aO.alD (v:= .slice (some ⟨g,0,none⟩) (i+(n-j)) c) (v2:= .slice (some ⟨g,0,none⟩) (i+(n-j)) c) rfl hf.ops.h21 (by decide) rfl hf.ops.h22 (by decide) ir (IL hf.ops.h21 rfl rfl (hA _)) (dy hf.ops.h22 _) (λa aO=> ?_);refine wp_seq (wp_region ?_);rw [show c8 (#[o 23,o 24,o 25,o 26,o 27,o 28]:Array Oper).size=[0,1,2,3,4,5] from rfl];refine aO.step (v:= .slice (some ⟨g,0,none⟩) (i+(n-j)) c) rfl hf.ops.h23 (by decide) (aZ hf.ops.h23 _) (λa aO=> ?_);refine aO.step (v:= .slice (some ⟨g,0,none⟩) (i+(n-j)) c) rfl hf.ops.h24 (by decide) (aZ hf.ops.h24 _) (λa aO=> ?_);refine aO.step (v:= .int .i64 ((i+(n-j):Nat):Int)) rfl hf.ops.h25 (by decide) (nO hf.ops.h25 hf.xB rfl _) (λa aO=> ?_);refine aO.step (v:= .int .i64 ((n:Nat):Int)) rfl hf.ops.h26 (by decide) (aZ hf.ops.h26 _) (λa aO=> ?_);refine aO.step (v:= .slice (some ⟨g,(i+(n-j)) *size,none⟩) (n-(i+(n-j))) (c-(i+(n-j)))) rfl hf.ops.h27 (by decide) (by refine (Qa (P:=P) hf.ops.h27 hf.xB oQ vP (ad:=some ⟨g,0,none⟩) (m:=i+(n-j)) (c:=c) (l:=i+(n-j)) (h:=n) rfl rfl rfl (by omega) (by omega) w1).trans ?_;rw [if_neg (show¬c=i+(n-j) by omega)];rw [show (some (⟨g,0,none⟩:Addr)).map (·.add ((i+(n-j)) *size))=some ⟨g,(i+(n-j)) *size,none⟩ from congrArg some (h0 _)]) (λa aO=> ?_);refine aO.ago (v:= .tuple #[]) rfl hf.ops.h28 (Ve hf.ops.h28 rfl (hC _)) ?_;refine wp_seq (wp_region ?_);rw [show c8 (#[o 29,o 30]:Array Oper).size=[0,1] from rfl];refine aO.step (v:= .slice (some ⟨g,0,none⟩) (i+(n-j)) c) rfl hf.ops.h29 (by decide) (aZ hf.ops.h29 _) (λa aO=> ?_);refine aO.step (v:= .slice (some ⟨g,0,none⟩) (i+(n-j)) c) rfl hf.ops.h30 (by decide) (dy hf.ops.h30 _) (λa aO=> ?_);refine wp_ret ?_;show bodyPost P fn (λx wq=>x= .returned (.slice (some ⟨g,0,none⟩) (i+(n-j)) c)/\wq=w2) .ret a w2;refine Vf hf.res aO (v:= .slice (some ⟨g,0,none⟩) (i+(n-j)) c) rfl ?_;exact ⟨rfl,rfl⟩
 exact key _ (tm3 _ _ _ 30)
end
section
variable {P:Program}{c:Ctx}{f:Nat}
theorem Mg {t ti el:Nat}{fn:Func}{r:Nat->Nat}{o:Nat->Oper}{I E:TI}{xs:List MV}{i j:Nat}(hf:Qb P f t ti el fn r o)(hT:lV P c.ti)(hI:c.tv t=some I)(hL:I.Dd=true)(hE:c.tv I.elem=some E)(hel:el=I.elem)(Fj:c.sf (c.key f)=I.elem)(hg:c.fe (c.key f)=true)(Nn:i<=j)(hj:j<=xs.length):lY P c f [.fresh xs,.i .i64 i,.i .i64 j] (.fresh (xs.take i++xs.drop j)):=by
 subst hel;obtain ⟨hIt,Y1⟩:=cc hI;obtain ⟨oR,rP⟩:=cc hE;obtain ⟨hu,E2,zJ,_,fg⟩:=TI.nZ (hT t I hIt) hL;rw [oR] at zJ;cases zJ;obtain ⟨ie,z,oQ,vP,hby,hz0,SI⟩:=sV (hT _ E oR) rP;obtain ⟨ie2,z2,aar,YV,hzr⟩:=CR hE hT;rw [oQ] at aar;cases aar;rw [hz0] at YV;cases YV;have hz1: ∀v∈z.cells.toList,v.oneCell'=true:=(hzr (qg c.key λ_ _=>none)).cells;intro φ W Z vs hz gn kb;simp only [fU,hg,if_true] at gn;obtain ⟨v0,v1,v2,xs',m1,m2,rfl,Ww,arU,F0,A1,A2⟩:=(gn.resolve_left (by
  rintro ⟨_,_,_,_,_,ys,_,h1,_⟩;simp only [adj,and_true] at h1;exact absurd h1.2.2 (by simp))).resolve_right (by
  rintro ⟨pos,_,_,_,_,_,_,h1,_⟩;rcases pos with _|_|_|pos<;>simp at h1)
 simp only [adj,MV.fresh.injEq,and_true] at Ww;obtain ⟨rfl,rfl,rfl⟩:=Ww;have num: ∀{v:Value} {n:Nat},gh c.key φ v (.i .i64 (n:Int))->v= .int .i64 (n:Int):=by intro v n h;obtain ⟨_,h⟩:=h;generalize Cj:[v]=l at h;cases h;simpa using Cj
 have Wc:=num A1;have hv2:=num A2;subst Wc;subst hv2;rw [Fj] at F0;obtain ⟨I0,cells,hI0,_,wI,u6,Md⟩:=F0;have hI0:c.ti I.elem=some I0:=hI0;rw [oR] at hI0;cases hI0;have wI:W.ownsRow 0 I.elem E.size v0 xs.length cells:=wI;have u6:bx c.key φ E.size cells xs:=u6;have R7: ∀b,v0.ownBlock=some b->Z b/\ ∀off,φ b off=none:=by
  intro b hb;refine ⟨(Md b hb).1,λoff=> ?_⟩;cases h:φ b off with
  |none=>rfl
  |some u=>have:=((Md b hb).2.1 off u h).1;cases this
 have r8:cells.length=xs.length *E.size:=u6.length;have cC:(callFunc f [v0,.int .i64 (i:Int),.int .i64 (j:Int)].toArray).run P W= .ok (.enter f #[v0,.int .i64 (i:Int),.int .i64 (j:Int)]) W:=by
  have GM: ¬fn.name= "runtime.NumGoroutine" :=by simpa using hf.name
  simp [callFunc,hf.pos,GM,hf.body]
 unfold ia;rw [cC];rcases Nat.lt_or_ge i j with dK|hge
 ·
  obtain ⟨g,cp,dL,rfl,_,Yi,PB,Hi,xz,R4⟩: ∃g cp dL,v0= .slice (some ⟨g,0,none⟩) xs.length cp/\0<=g/\W.heap[g]? =some (.cells dL I.elem (0,0))/\xs.length<=cp/\cp<=maxLen/\dL.size=cp *E.size/\dL.toList.take (xs.length *E.size)=cells:=by
   rcases wI.2 with ⟨_,h0⟩|h
   ·omega
   ·exact h
  have hl0:cells.length<=dL.size:=by rw [r8,xz];exact ab1 _ PB
  obtain ⟨news,Vg⟩: ∃news,news=cells.drop (j *E.size):=⟨_,rfl⟩
  have Hk:news.length=(xs.length-j) *E.size:=by rw [Vg,aaG,r8,aeH]
  have KH: ∀u∈news,u.oneCell'=true:=λu hu=>u6.CK u (by rw [Vg] at hu;exact aeI hu);have hmul: ∀{a b:Nat},a<=b->a *E.size<=b *E.size:=λh=>ab1 _ h;have atO:i *E.size<=j *E.size:=hmul (by omega);have hjn:j *E.size<=xs.length *E.size:=hmul hj;have atP:xs.length *E.size<=cp *E.size:=hmul PB;have hlo:(i+(xs.length-j)) *E.size=i *E.size+news.length:=by rw [acP,Hk]
  have GN:news.length+j *E.size=xs.length *E.size:=by rw [Hk,aeH];omega
  obtain ⟨Af,Vh⟩: ∃Af:Array Value,Af=(dL.toList.take (i *E.size)++news++dL.toList.drop (i *E.size+news.length)).toArray:=⟨_,rfl⟩
  have alE:dL.toList.length=dL.size:=aaf;have agp:Af.toList.length=Af.size:=aaf;have hA: ∀ty,(acK #[t,t] ty #[.slice (some ⟨g,0,none⟩) i cp,.slice (if cp=j then (some ⟨g,0,none⟩:Option Addr) else some ⟨g,j *E.size,none⟩) (xs.length-j) (cp-j)]).run P {W with drawn:=W.drawn+1}= .ok (.slice (some ⟨g,0,none⟩) (i+(xs.length-j)) cp) (({W with drawn:=W.drawn+1}:World).setRow g Af):=by
   intro ty;have zu:i *ie.size+news.length<=dL.size:=by rw [vP,xz];omega
   by_cases hcj:cp=j
   ·rw [if_pos hcj];refine run_append_room (P:=P) (w:={W with drawn:=W.drawn+1}) t ty I.elem ie hu oQ g i cp dL Yi ⟨g,0,none⟩ (xs.length-j) (cp-j) news (by rw [vP];exact Hk) ?_ KH (by omega) zu|>.trans ?_
    ·intro q u hq;have:=(acJ.1 hq).1;rw [Hk,show xs.length-j=0 by omega] at this;omega
    ·rw [vP,Vh]
   ·rw [if_neg hcj];refine run_append_room (P:=P) (w:={W with drawn:=W.drawn+1}) t ty I.elem ie hu oQ g i cp dL Yi ⟨g,j *E.size,none⟩ (xs.length-j) (cp-j) news (by rw [vP];exact Hk) ?_ KH (by omega) zu|>.trans ?_
    ·intro q u hq;have h1:=wI.cells (g:=g) rfl (j *E.size+q) u (by rw [Vg,acC] at hq;exact hq);rw [adb] at h1⊢;rw [aew] at h1;exact h1
    ·rw [vP,Vh]
  have SC:Af.size=dL.size:=by rw [Vh];simp only [abH,AI,AS,aaG,alE];omega
  have LO:(({W with drawn:=W.drawn+1}:World).setRow g Af).heap[g]? =some (.cells Af I.elem (0,0)):=wJ _ Yi;obtain ⟨zs,hzl,hC0⟩:=Ae (P:=P) (t:=t) (ty:=0) (c:=cp-(i+(xs.length-j))) (w:=({W with drawn:=W.drawn+1}:World).setRow g Af) (off:=(i+(xs.length-j)) *E.size) (n:=xs.length-(i+(xs.length-j))) hu oQ hz0 SI hz1 LO (by omega) (by rw [SC,xz,<-acP];exact hmul (by omega));obtain ⟨wz,Py⟩: ∃wz:Array Value,wz=(Af.toList.take ((i+(xs.length-j)) *E.size)++zs++Af.toList.drop ((i+(xs.length-j)) *E.size+zs.length)).toArray:=⟨_,rfl⟩
  rw [<-Py] at hC0;have hC: ∀ty,(aez #[t] ty #[.slice (some ⟨g,(i+(xs.length-j)) *E.size,none⟩) (xs.length-(i+(xs.length-j))) (cp-(i+(xs.length-j)))]).run P (({W with drawn:=W.drawn+1}:World).setRow g Af)= .ok (.tuple #[]) ((({W with drawn:=W.drawn+1}:World).setRow g Af).setRow g wz):=λty=>hC0;refine (aaq (w:=W) hf oQ vP PB dK hj hA hC).mono ?_;rintro x w' ⟨rfl,rfl⟩;refine ⟨_,rfl,?_⟩;have apt:zs.length=(j-i) *E.size:=by rw [hzl];congr 1;omega
  have hc2:wz.size=dL.size:=by rw [Py];simp only [abH,AI,AS,aaG,agp,SC];rw [apt,aeH,hlo];omega
  have aly:wz.toList.take ((i+(xs.length-j)) *E.size)=cells.take (i *E.size)++cells.drop (j *E.size):=by
   rw [Py];have l1:(Af.toList.take ((i+(xs.length-j)) *E.size)).length=(i+(xs.length-j)) *E.size:=by rw [AS,agp,SC,xz,hlo];omega
   rw [show∀l:List Value,l.toArray.toList=l from λ_=>rfl,acQ,aai (by rw [l1];exact aaa _),aaI (by rw [l1];exact aaa _),hlo,Vh];have l2:(dL.toList.take (i *E.size)).length=i *E.size:=by rw [AS,alE,xz];omega
   rw [show∀l:List Value,l.toArray.toList=l from λ_=>rfl,aai (by rw [AI,l2];exact aaa _),aaI (by rw [AI,l2];exact aaa _),Vg];congr 1;rw [<-R4,aey,acL (by omega)]
  have e2:(({W with drawn:=W.drawn+1}:World).setRow g Af).setRow g wz=({W with drawn:=W.drawn+1}:World).setRow g wz:=setRow_setRow _ _ _ _;have S4:((({W with drawn:=W.drawn+1}:World).setRow g Af).setRow g wz).heap[g]? =some (.cells wz I.elem (0,0)):=wJ _ LO;have hrl:(xs.take i++xs.drop j).length=i+(xs.length-j):=by rw [AI,AS,aaG];omega
  refine Hn (n:=i+(xs.length-j)) (cells:=cells.take (i *E.size)++cells.drop (j *E.size)) hz kb oR rP Fj ?_ ?_ ?_ R7 ?_ hrl ((u6.take i).append (u6.drop j)) ?_
  ·intro b _ dG;have hbg:b≠g:=λe=>dG (by rw [e];rfl);rw [setRow_other _ _ _ _ hbg,setRow_other _ _ _ _ hbg]
  ·simp [acR]
  ·have r1:Rest W ({W with drawn:=W.drawn+1}:World):=⟨rfl,rfl,rfl,λ_=>rfl⟩
   exact (r1.trans (Rest.setRow _ g Af)).trans (Rest.setRow _ g wz)
  ·refine ⟨?_,.inr ⟨g,cp,wz,rfl,acF _,S4,by omega,Hi,by rw [hc2,xz],aly⟩⟩;rw [AI,AS,aaG,r8,hlo,Hk,aeH];omega
  ·intro b hb;exact .inl hb
 ·
  have WL:j=i:=by omega
  subst WL;obtain ⟨ad,cp,hv,PB⟩: ∃ad cp,v0= .slice ad xs.length cp/\xs.length<=cp:=by
   rcases wI.2 with ⟨h1,h2⟩|⟨g,cp,dL,h1,_,_,h4,_⟩
   ·exact ⟨none,0,by rw [h1,h2],by omega⟩
   ·exact ⟨_,cp,h1,h4⟩
  have hvv:=hv;subst hv;refine (aap (w:=W) (ad:=ad) hf oQ PB hj).mono ?_;rintro x w' ⟨rfl,rfl⟩;refine ⟨_,rfl,φ,⟨.refl _,λ_ _ _=>rfl,λ_ _ _=>rfl,aaa _,.refl _⟩,kb,?_⟩;show dH c (cb.plain Z) (qg c.key φ) w' _ ⟨c.sf (c.key f),false,xs.take j++xs.drop j⟩;rw [Fj,List.take_append_drop];exact ⟨E,cells,oR,rP,wI,u6,Md⟩
end
def qE:List MV->Option MV
 |[.fresh xs,.i .i64 i,.i .i64 j]=>bif decide (0<=i)&&(decide (i<=j)&&decide (j<=(xs.length:Int))) then some (.fresh (xs.take i.toNat++xs.drop j.toNat)) else none
 |_=>none
theorem DN {ms:List MV}{r:MV}(h:qE ms=some r): ∃xs i j,ms=[.fresh xs,.i .i64 ((i:Nat):Int),.i .i64 ((j:Nat):Int)]/\r= .fresh (xs.take i++xs.drop j)/\i<=j/\j<=xs.length:=by
 unfold qE at h;split at h
 ·rename_i xs i j;cases hb:decide (0<=i)&&(decide (i<=j)&&decide (j<=(xs.length:Int))) with
  |false=>rw [hb] at h;cases h
  |true=>simp only [hb,cond_true,IN] at h;simp only [sh,decide_eq_true_eq] at hb;obtain ⟨h1,h2,h3⟩:=hb;refine ⟨xs,i.toNat,j.toNat,?_,h.symm,by omega,by omega⟩;rw [afI h1,afI (by omega)]
 ·cases h
end Dn
/-
  Functions of the library as table entries. Conditions: none.
-/
namespace Dn
open Go
def iu (size bytes:Nat):List MV->Option MV
 |[.list xs]=>bif qa size xs&&aaH (xs.length *bytes) (2^46) then some (.fresh xs) else none
 |_=>none
def ko (bytes:Nat):List MV->Option MV
 |[.fresh xs,.i .i64 i,.fresh ys]=>bif decide (0<=i)&&(aaH i.toNat xs.length&&(!ys.isEmpty&&aaH ((xs.length+ys.length) *bytes) (2^46))) then some (.fresh (xs.take i.toNat++ys++xs.drop i.toNat)) else none
 |_=>none
theorem u7 {size bytes:Nat}{ms:List MV}{r:MV}(h:iu size bytes ms=some r): ∃xs,ms=[.list xs]/\r= .fresh xs/\qa size xs=true/\xs.length *bytes<=2^46:=by
 unfold iu at h;split at h
 ·rename_i xs;cases hb:qa size xs&&aaH (xs.length *bytes) (2^46) with
  |false=>simp [hb] at h
  |true=>simp only [hb,cond_true,IN] at h;simp only [sh] at hb;exact ⟨xs,rfl,h.symm,hb.1,No hb.2⟩
 ·cases h
theorem xZ {bytes:Nat}{ms:List MV}{r:MV}(h:ko bytes ms=some r): ∃xs ys i,ms=[.fresh xs,.i .i64 ((i:Nat):Int),.fresh ys]/\r= .fresh (xs.take i++ys++xs.drop i)/\i<=xs.length/\ys≠[]/\(xs.length+ys.length) *bytes<=2^46:=by
 unfold ko at h;split at h
 ·rename_i xs i ys;cases hb:decide (0<=i)&&(aaH i.toNat xs.length&&(!ys.isEmpty&&aaH ((xs.length+ys.length) *bytes) (2^46))) with
  |false=>rw [hb] at h;cases h
  |true=>
   simp only [hb,cond_true,IN] at h;simp only [sh,decide_eq_true_eq,abc] at hb;obtain ⟨h1,h2,h3,h4⟩:=hb;refine ⟨xs,ys,i.toNat,?_,h.symm,No h2,?_,No h4⟩
   ·rw [afI h1]
   ·intro hy;subst hy;simp at h3
 ·cases h
theorem jY.none (P:Program)(c:Ctx):jY P c (λ_ _=>Option.none):=⟨λf ms r h=>by cases h⟩
theorem jY.GR {P:Program}{c:Ctx}{g:Nat->List MV->Option MV}{n:Nat}{F:List MV->Option MV}(h:jY P c g)(CO: ∀f,c.key f=f)(hF: ∀ms r,F ms=some r->lY P c n ms r):jY P c (bt n F g):=h.add (λf ms r hk hr=>by rw [CO] at hk;rw [hk];exact hF ms r hr)
def ya:Code->List Oper
 | .region _ ops _=>ops.toList
 | .seq x y=>ya x++ya y
 | .cond _ x y=>ya x++ya y
 | .block _ x=>ya x
 | .loop x=>ya x
 |_=>[]
def jP (fn:Func)(d:Oper)(k:Nat):Oper:=match fn.body with|some c=>(ya c).getD k d|none=>d
def NN (o:Nat->Oper):Code:= .seq (.region 18 #[o 83,o 84,o 85,o 86,o 87] false) (.seq (.region 19 #[o 88,o 89,o 90,o 91,o 92] false) (.seq (.region 20 #[o 93,o 94] false) .ret))
def jQ:Oper:={dst:=none,op:= .move (.tmp 0),type:=0,pos:= "",after:= #[],guard:=none}
end Dn
/-
  Reasoning about functions on values. Conditions: none.
-/
namespace Dn
open Go
section
variable {R:Type}
@[simp] theorem atQ (k : IntKind)(x : Int)(K : Int -> Option R) : gI k (.i k x) K = K x := by simp [gI]
@[simp] theorem al {α : Type}(a : α)(K : α -> Option R) : bd (some a) K = K a := (rfl)
@[simp] theorem arX (a b : Nat) : acw a b = decide (a = b) := gj a b
@[simp] theorem alF (K : Option R) : bU true K = K := (rfl)
@[simp] theorem alG (x y : Option R) : aQ true x y = x := (rfl)
@[simp] theorem ajx (x y : Option R) : aQ false x y = y := (rfl)
end
theorem ad0 {x:Int}(h1: -9223372036854775808<=x)(h2:x<=9223372036854775807):acV .i64 x=x:=by rw [adF];omega
theorem aas {i j:Nat}(h:i+j<2^62):acV .i64 (Int.fdiv (acV .u64 (acV .i64 ((i:Int)+(j:Int)))) (2^min (Int.toNat 1) (ahr .u64)))=(((i+j)/2:Nat):Int):=by
 have h1:acV .i64 ((i:Int)+(j:Int))=((i+j:Nat):Int):=by rw [adF];omega
 have h2:acV .u64 ((i+j:Nat):Int)=((i+j:Nat):Int):=by
  have:acV .u64 ((i+j:Nat):Int)=((i+j:Nat):Int)%18446744073709551616:=by simp [acV,IntKind.signed,ahr]
  rw [this];omega
 have h3:(2:Int)^min (Int.toNat 1) (ahr .u64)=2:=by decide
 rw [h1,h2,h3,Int.fdiv_eq_ediv_of_nonneg _ (by omega)];rw [adF];omega
section
variable {σ R:Type}{body:σ->Option (Sum σ R)}
theorem Mh {n:Nat}{s:σ}{r:R}(h:iter body n s=some r): ∀{m:Nat},n<=m->iter body m s=some r:=by
 induction n generalizing s with
 |zero=>cases h
 |succ n ih=>
  intro m hm;obtain ⟨m,rfl⟩: ∃k,m=k+1:=⟨m-1,by omega⟩
  simp only [iter] at h⊢;cases hb:body s with
  |none=>rw [hb] at h;cases h
  |some x=>
   rw [hb] at h;cases x with
   |inl s'=>exact ih h (by omega)
   |inr r'=>exact h
theorem sB {n:Nat}{s:σ}{r:R}(h:iter body n s=some r):Loop body s=some r:=by
 have he: ∃r n,iter body n s=some r:=⟨r,n,h⟩
 unfold Loop;rw [dif_pos he];obtain ⟨m,hm⟩:=Classical.choose_spec he;have h1:=Mh h (Nat.le_max_left n m);have h2:=Mh hm (Nat.le_max_right n m);rw [h1] at h2;exact h2.symm
theorem aat (I:σ->Prop) (μ:σ->Nat)(Q:R->Prop)(h: ∀s,I s->(∃s',body s=some (.inl s')/\I s'/\μ s'<μ s)\/(∃r,body s=some (.inr r)/\Q r)){s:σ}(hs:I s): ∃r,Loop body s=some r/\Q r:=by
 have key: ∀k s,I s->μ s<k-> ∃r,iter body k s=some r/\Q r:=by
  intro k;induction k with
  |zero=>intro s _ h;omega
  |succ k ih=>
   intro s hs hk;rcases h s hs with ⟨s',e,hi,hm⟩|⟨r,e,hq⟩
   ·obtain ⟨r,e2,hq⟩:=ih s' hi (by omega);exact ⟨r,by simp only [iter,e];exact e2,hq⟩
   ·exact ⟨r,by simp only [iter,e],hq⟩
 obtain ⟨r,e,hq⟩:=key (μ s+1) s hs (by omega);exact ⟨r,sB e,hq⟩
theorem aau (S:Nat->σ)(N:Nat)(Q:R->Prop)(P:Nat->Prop)(h0:P 0)(h: ∀k,k<N->P k->(body (S k)=some (.inl (S (k+1)))/\P (k+1))\/(∃r,body (S k)=some (.inr r)/\Q r))(he:P N-> ∃r,body (S N)=some (.inr r)/\Q r): ∃r,Loop body (S 0)=some r/\Q r:=by
 have key: ∀d k,k+d=N->P k-> ∃r,iter body (d+1) (S k)=some r/\Q r:=by
  intro d;induction d with
  |zero=>
   intro k hk hp;have:k=N:=by omega
   subst this;obtain ⟨r,e,hq⟩:=he hp;exact ⟨r,by simp only [iter,e],hq⟩
  |succ d ih=>
   intro k hk hp;rcases h k (by omega) hp with ⟨e,Nr⟩|⟨r,e,hq⟩
   ·obtain ⟨r,e2,hq⟩:=ih (k+1) (by omega) Nr;exact ⟨r,by rw [iter,e];exact e2,hq⟩
   ·exact ⟨r,by rw [iter,e],hq⟩
 obtain ⟨r,e,hq⟩:=key N 0 (by omega) h0;exact ⟨r,sB e,hq⟩
end
end Dn
/-
  From functions on plain values to functions on typed values. Conditions: none.
-/
namespace Dn
open Go
def a7 {R:Type}(l:List MV)(K:Nat->Option R):Option R:=K l.length
def ix {α R:Type}(l:List α)(i:Int)(K:α->Option R):Option R:=match (if 0<=i then l[i.toNat]? else none) with|some x=>K x|none=>none
def Qc (l:List UInt8):List Int:=l.map λb=>(b.toNat:Int)
@[simp] theorem yb (l : List UInt8) : Pb l = (Qc l).map (MV.i .u8) := by unfold Pb Qc; rw [ahq]; rfl
def kp {α:Type}(bytes:Nat)(l:List α):Option (List α):=if l.length *bytes<=2^46 then some l else none
def Br {α:Type}(xs:List α)(i j:Int):Option (List α):=if 0<=i/\i<=j/\j<=(xs.length:Int) then some (xs.take i.toNat++xs.drop j.toNat) else none
def sC {α:Type}(bytes:Nat)(xs:List α)(i:Int)(ys:List α):Option (List α):=if 0<=i/\i.toNat<=xs.length/\ys≠[]/\(xs.length+ys.length) *bytes<=2^46 then some (xs.take i.toNat++ys++xs.drop i.toNat) else none
@[reducible] def GS {α : Type}(f : α -> MV)(l : List α) : MV := .list (l.map f)
@[reducible] def KR {α : Type}(f : α -> MV)(l : List α) : MV := .fresh (l.map f)
def Sm {A B:Type}(g:B->A)(x:Option A)(y:Option B):Prop:=x=y.map g
section
variable {A B A' B' α:Type}{g:B->A}{T:Option B}
theorem Sm.at {x x':Option A}(e:x=x')(h:Sm g x' T):Sm g x T:=e▸h
theorem ax {l:List MV}{K:List MV->Option A}(h:Sm g (K l) T):Sm g (gA (.agg l) K) T:=h
theorem aG {x:Bool}{K:Bool->Option A}(h:Sm g (K x) T):Sm g (gB (.b x) K) T:=h
theorem bA {x:List UInt8}{K:List UInt8->Option A}(h:Sm g (K x) T):Sm g (gS (.s x) K) T:=h
theorem aH {x:List MV}{K:List MV->Option A}(h:Sm g (K x) T):Sm g (gL (.list x) K) T:=h
theorem Mi {x:MV}{outs:List MV}{K:MV->List MV->Option A}(h:Sm g (K x outs) T):Sm g (gW (.e9 x outs) K) T:=h
theorem b9 {x:List MV}{K:List MV->Option A}(h:Sm g (K x) T):Sm g (gT (.cj x) K) T:=h
theorem fh {x:List MV}{K:List MV->Option A}(h:Sm g (K x) T):Sm g (gF (.fresh x) K) T:=h
theorem Mj {x:List MV}{K:List MV->Option A}(h:Sm g (K x) T):Sm g (gP (.rp x) K) T:=h
theorem vQ {f:Nat}{x:List MV}{K:Nat->List MV->Option A}(h:Sm g (K f x) T):Sm g (Sd (.func f x) K) T:=h
theorem vR {f:Nat}{x:List MV}{K:MV->Option A}(h:Sm g (K (.func f x)) T):Sm g (gR (.func f x) K) T:=h
theorem ay {k:IntKind}{n:Int}{K:Int->Option A}(h:Sm g (K n) T):Sm g (gI k (.i k n) K) T:=by simpa using h
theorem ab {m:MV}{r:List MV}{K:MV->List MV->Option A}(h:Sm g (K m r) T):Sm g (gC (m::r) K) T:=h
theorem ak {K:Option A}(h:Sm g K T):Sm g (gN [] K) T:=h
theorem ae {x:Option A'}{y:Option B'}{f:B'->A'}{K:A'->Option A} {K':B'->Option B}(h:Sm f x y)(hk: ∀b,Sm g (K (f b)) (K' b)):Sm g (bd x K) (bd y K'):=by
 unfold Sm at h;subst h;cases y with
 |none=>rfl
 |some b=>exact hk b
theorem ap {p:Prop}[Decidable p]{X Y:Option A} {X' Y':Option B}(h1:Sm g X X')(h2:Sm g Y Y'):Sm g (aQ (decide p) X Y) (if p then X' else Y'):=by by_cases h:p<;>simpa [h] using (by assumption)
theorem aw {c:Bool}{X Y:Option A} {X' Y':Option B}(h1:Sm g X X')(h2:Sm g Y Y'):Sm g (aQ c X Y) (if c then X' else Y'):=by cases c<;>simpa using (by assumption)
theorem bH {p:Prop}[Decidable p]{X:Option A} {X':Option B}(h1:Sm g X X'):Sm g (bU (decide p) X) (if p then X' else none):=by
 by_cases h:p
 ·simpa [h] using h1
 ·simp [h,bU,Sm]
theorem NO {c:Bool}{X:Option A} {X':Option B}(h1:Sm g X X'):Sm g (bU c X) (if c then X' else none):=by
 cases c
 ·simp [bU,Sm]
 ·simpa using h1
theorem bc {c:Bool}{X:Option A}(hc:c=true)(h:Sm g X T):Sm g (bU c X) T:=by subst hc;exact h
theorem eH {c:Bool}{X Y:Option A}(hc:c=true)(h:Sm g X T):Sm g (aQ c X Y) T:=by subst hc;exact h
theorem eI {c:Bool}{X Y:Option A}(hc:c=false)(h:Sm g Y T):Sm g (aQ c X Y) T:=by subst hc;exact h
theorem yc {l:List MV}{n:Nat}{K:Nat->Option A}(e:l.length=n)(h:Sm g (K n) T):Sm g (a7 l K) T:=by subst e;exact h
theorem aU {l:List MV}{M:List α}{f:α->MV}{i:Int}{K:MV->Option A} {K':α->Option B}(e:l=M.map f)(h: ∀y,Sm g (K (f y)) (K' y)):Sm g (idx l i K) (ix M i K'):=by
 subst e;unfold idx agQ ix;by_cases hi:0<=i
 ·simp only [hi,if_true,agd];cases M[i.toNat]? with
  |none=>rfl
  |some y=>exact h y
 ·simp only [hi,if_false];rfl
theorem Bs {X:Option A}{T:Option B}(h:Sm g X T):Sm g (both X X) T:=by
 have e:both X X=X:=by unfold both;rw [if_pos rfl]
 rw [e];exact h
theorem aav {X:Option A}{T:Option B}(h:Sm g X T):Sm g (both X (both X X)) T:=by
 have e:both X X=X:=by unfold both;rw [if_pos rfl]
 rw [e,e];exact h
def KS {R:Type}(l:List Int)(K:List UInt8->Option R):Option R:=if l.all isByte then K (l.map λn=>UInt8.ofNat n.toNat) else none
theorem aaw {R:Type}{M:List Int}: ∀{K:List UInt8->Option R},HL (M.map (MV.i .u8)) K=KS M K:=by
 induction M with
 |nil=>intro K;rfl
 |cons n M ih=>intro K;simp only [adJ,HL,byK,gI,decide_true,cond_true,ih];cases h:isByte n<;>simp [bU,KS,h]
theorem Tj {l:List MV}{M:List Int}{K:List UInt8->Option A} {K':List UInt8->Option B}(e:l=M.map (MV.i .u8))(h: ∀b,Sm g (K b) (K' b)):Sm g (HL l K) (KS M K'):=by
 subst e;rw [aaw];unfold KS;split
 ·exact h _
 ·rfl
theorem cm {d:A}{a:B}(e:d=g a):Sm g (some d) (some a):=by subst e;rfl
theorem ad1:Sm g none none:=rfl
theorem ad2 {p k:Nat}{K:Nat->Option A}{X:Option B}(h:k=p->Sm g (K p) X):Sm g (KD [p] k K) (if k=p then X else none):=by
 by_cases hk:k=p
 ·subst hk;rw [if_pos rfl];unfold KD;rw [show acw k k=true from Nat.beq_refl k];exact h rfl
 ·rw [if_neg hk];unfold KD;rw [show acw k p=false from by simpa using hk];rfl
theorem qF {p q k:Nat}{r:List Nat}{K:Nat->Option A}{X Y:Option B}(h:k=p->Sm g (K p) X)(h2:Sm g (KD (q::r) k K) Y):Sm g (KD (p::q::r) k K) (if k=p then X else Y):=by
 by_cases hk:k=p
 ·subst hk;rw [if_pos rfl];unfold KD;rw [show acw k k=true from Nat.beq_refl k];exact h rfl
 ·rw [if_neg hk];unfold KD;rw [show acw k p=false from by simpa using hk];exact h2
theorem sD {n:Nat}{l:List MV}{M:List α}{f:α->MV}(e:l=M.map f)(h: ∀x,(f x).w=n):qa n l=true:=by subst e;unfold qa;rw [List.all_map,aaX];intro x _;simp [h x]
theorem Qd {σ σ' ρ ρ':Type}{e:σ'->σ}{f:ρ'->ρ}{K:σ->Option (Sum σ ρ)} {K':σ'->Option (Sum σ' ρ')}(h: ∀s,Sm (Sum.map e f) (K (e s)) (K' s))(n:Nat)(s:σ'):iter K n (e s)=(iter K' n s).map f:=by
 induction n generalizing s with
 |zero=>rfl
 |succ n ih=>
  have:=h s;unfold Sm at this;simp only [iter,this];cases K' s with
  |none=>rfl
  |some x=>cases x with
   |inl s'=>exact ih s'
   |inr r=>rfl
theorem Mk {σ ρ:Type}{K:σ->Option (Sum σ ρ)}{s:σ}(h: ∀n,iter K n s=none):Loop K s=none:=by unfold Loop;rw [dif_neg];rintro ⟨r,n,e⟩;rw [h] at e;cases e
theorem bu {σ σ' ρ ρ':Type}{K:σ->Option (Sum σ ρ)} {K':σ'->Option (Sum σ' ρ')}{d0:σ}{s0:σ'}(e:σ'->σ)(f:ρ'->ρ)(e0:d0=e s0)(h: ∀s,Sm (Sum.map e f) (K (e s)) (K' s)):Sm f (Loop K d0) (Loop K' s0):=by
 subst e0;unfold Sm;by_cases hx: ∃r n,iter K' n s0=some r
 ·obtain ⟨r,n,hn⟩:=hx;rw [sB hn];have:iter K n (e s0)=some (f r):=by rw [Qd h,hn];rfl
  rw [sB this];rfl
 ·have h1: ∀n,iter K' n s0=none:=λn=>by
   cases hn:iter K' n s0 with
   |none=>rfl
   |some r=>exact absurd ⟨r,n,hn⟩ hx
  rw [Mk h1,Mk λn=>by rw [Qd h,h1];rfl];rfl
theorem sE {size bytes:Nat}{f:α->MV}(hw: ∀x,(f x).w=size)(l:List α):Sm (KR f) (iu size bytes [.list (l.map f)]) (kp bytes l):=by
 unfold Sm iu kp;simp only [sD (rfl:l.map f=l.map f) hw,Bool.true_and,afq];by_cases h:l.length *bytes<=2^46
 ·rw [show aaH (l.length *bytes) (2^46)=true from aeC h,if_pos h];rfl
 ·rw [show aaH (l.length *bytes) (2^46)=false from by rw [ahu];intro hb;exact h (No hb),if_neg h];rfl
theorem Qe {f:α->MV}(xs:List α)(i j:Int):Sm (KR f) (qE [.fresh (xs.map f),.i .i64 i,.i .i64 j]) (Br xs i j):=by unfold Sm qE Br;simp only [afq];by_cases h1:0<=i<;>by_cases h2:i<=j<;>by_cases h3:j<=(xs.length:Int)<;>simp [h1,h2,h3,KR]
theorem IR {bytes:Nat}{f:α->MV}(xs:List α)(i:Int)(ys:List α):Sm (KR f) (ko bytes [.fresh (xs.map f),.i .i64 i,.fresh (ys.map f)]) (sC bytes xs i ys):=by
 unfold Sm ko sC;simp only [afq];have hb: ∀a b:Nat,aaH a b=decide (a<=b):=λa b=>by
  by_cases h:a<=b
  ·rw [aeC h,decide_eq_true h]
  ·rw [decide_eq_false h,ahu];intro hh;exact h (No hh)
 rw [hb,hb];have he:(ys.map f).isEmpty=decide (ys=[]):=by cases ys<;>simp
 rw [he];by_cases h1:0<=i<;>by_cases h2:i.toNat<=xs.length<;>by_cases h3:ys=[]<;>by_cases h4:(xs.length+ys.length) *bytes<=2^46<;>simp [h1,h2,h3,h4,KR]
end
abbrev Tk (f:Option MV):List MV->Option MV|[]=>f|_=>none
abbrev mb (f:MV->Option MV):List MV->Option MV|[a]=>f a|_=>none
abbrev dC (f:MV->MV->Option MV):List MV->Option MV|[a,b]=>f a b|_=>none
abbrev GU (f:MV->MV->MV->Option MV):List MV->Option MV|[a,b,c]=>f a b c|_=>none
abbrev WX (f:MV->MV->MV->MV->Option MV):List MV->Option MV|[a,b,c,d]=>f a b c d|_=>none
abbrev aii (f:MV->MV->MV->MV->MV->Option MV):List MV->Option MV|[a,b,c,d,e]=>f a b c d e|_=>none
theorem DO {f:Option MV}{B:List MV->Option MV}(h:B []=f){ms:List MV}{r:MV}(e:Tk f ms=some r):B ms=some r:=by
 unfold Tk at e;split at e
 ·rw [h];exact e
 ·cases e
theorem dp {f:MV->Option MV}{B:List MV->Option MV}(h: ∀a,B [a]=f a){ms:List MV}{r:MV}(e:mb f ms=some r):B ms=some r:=by
 unfold mb at e;split at e
 ·rw [h];exact e
 ·cases e
theorem bl {f:MV->MV->Option MV}{B:List MV->Option MV}(h: ∀a b,B [a,b]=f a b){ms:List MV}{r:MV}(e:dC f ms=some r):B ms=some r:=by
 unfold dC at e;split at e
 ·rw [h];exact e
 ·cases e
theorem qG {f:MV->MV->MV->Option MV}{B:List MV->Option MV}(h: ∀a b c,B [a,b,c]=f a b c){ms:List MV}{r:MV}(e:GU f ms=some r):B ms=some r:=by
 unfold GU at e;split at e
 ·rw [h];exact e
 ·cases e
theorem Ho {f:MV->MV->MV->MV->Option MV}{B:List MV->Option MV}(h: ∀a b c d,B [a,b,c,d]=f a b c d){ms:List MV}{r:MV}(e:WX f ms=some r):B ms=some r:=by
 unfold WX at e;split at e
 ·rw [h];exact e
 ·cases e
theorem ad3 {f:MV->MV->MV->MV->MV->Option MV}{B:List MV->Option MV}(h: ∀a b c d i,B [a,b,c,d,i]=f a b c d i){ms:List MV}{r:MV}(e:aii f ms=some r):B ms=some r:=by
 unfold aii at e;split at e
 ·rw [h];exact e
 ·cases e
theorem jY.fn {P:Program} {c c':Ctx}{g:Nat->List MV->Option MV}{n:Nat}{fn:Func}{cE:List (List Kd)}{F:List MV->Option MV}(h:jY P c g)(hl:DJ c c')(hgg:c'.g=g)(uC:lV P c.ti)(oM:Sw P c.ti)(hfk: ∀t k,c.fk t=some k->P.underlying t=some (.float k))(UW:Fb P c)(P7:P.follows .mixedOrders=true)(NI:xX P c)(hf:P.funcs[n]? =some fn)(hh:Mc c' n fn cE=true)(CO: ∀f,c.key f=f){fresh:Option Nat}(E5:IK c' n fn fresh=true)(hF: ∀{ms r},F ms=some r->HQ c' cE fresh fn ms=some r):jY P c (bt n F g):=by have hb:=jY.body h hl hgg uC oM hfk UW P7 NI hf hh CO E5;refine h.add (λf ms r hk hr=> ?_);refine hb.all f ms r ?_;unfold bt;rw [hk];simp [hF hr]
def DP {α σ:Type}(p:α->σ->Option (Bool×σ)):σ->List α->Option (List α×σ)
 |s,[]=>some ([],s)
 |s,x::xs=>bd (p x s) λq=>bd (DP p q.2 xs) λr=>some (if q.1 then r.1 else x::r.1,r.2)
theorem aax {l:List MV} {α:Type}{M:List α}{f:α->MV}(e:l=M.map f)(h: ∀x,Sn (f x)=true):l.all Sn=true:=by subst e;rw [List.all_map,aaX];intro x _;exact h x
theorem aay {α σ:Type}{f:α->MV}{lv:σ->List MV}{g:Nat->List MV->Option MV}{k:Nat}{cE:List MV}{p:α->σ->Option (Bool×σ)}(h: ∀x s,Sm (λr=>MV.e9 (.b r.1) (lv r.2)) (g k (f x::(cE++[.cell (.func 0 (lv s))]))) (p x s)): ∀(s:σ)(L:List α),Sm (λr=>(r.1.map f,lv r.2)) (nr (Lw g k cE) (lv s) (L.map f)) (DP p s L)
 |s,[]=>rfl
 |s,x::xs=>by
  have hx:=h x s;unfold Sm at hx⊢;simp only [adJ,nr,Lw,DP,hx];cases p x s with
  |none=>rfl
  |some q=>
   have ih:=aay h q.2 xs;unfold Sm at ih;simp only [adX,ih];show _=Option.map _ (bd (DP p q.2 xs) λr=>_);cases DP p q.2 xs with
   |none=>rfl
   |some r=>obtain ⟨b,s'⟩:=q;cases b<;>rfl
end Dn
/-
  What functions of package strings yield: plain and typed. Conditions: none.
-/
namespace Dn
open Go
def cy (c:UInt8):List UInt8->List (List UInt8)
 |[]=>[[]]
 |x::l=>if x=c then []::cy c l else match cy c l with
  |p::r=>(x::p)::r
  |[]=>[[x]]
def IU:List MV->Option MV
 |[.s a,.s b]=>bif (aaH 1 a.length&&aaH a.length (2^46))&&(aaH 2 b.length&&(aaH b.length 1000&&b.all λx=>decide (x.toNat<128))) then some (.s (aia a b)) else none
 |_=>none
def tl:List MV->Option MV
 |[.s a,.i .i32 r]=>bif decide (0<=r/\r<128) then some (.b (decide (0<=ahS a r.toNat.toUInt8))) else none
 |_=>none
def Ag:List MV->Option MV
 |[.s a,.s [c]]=>bif aaH a.length 4294967280 then some (.fresh ((cy c a).map MV.s)) else none
 |_=>none
def Ml (a b:List UInt8):Option (List UInt8):=bif (aaH 1 a.length&&aaH a.length (2^46))&&(aaH 2 b.length&&(aaH b.length 1000&&b.all λx=>decide (x.toNat<128))) then some (aia a b) else none
def DQ (a:List UInt8)(r:Int):Option Bool:=bif decide (0<=r/\r<128) then some (decide (0<=ahS a r.toNat.toUInt8)) else none
def NP (a s:List UInt8):Option (List (List UInt8)):=match s with
 |[c]=>bif aaH a.length 4294967280 then some (cy c a) else none
 |_=>none
theorem aij (a b:List UInt8):Sm MV.s (IU [.s a,.s b]) (Ml a b):=by unfold Sm IU Ml;dsimp only;cases (aaH 1 a.length&&aaH a.length (2^46))&&(aaH 2 b.length&&(aaH b.length 1000&&b.all λx=>decide (x.toNat<128)))<;>rfl
theorem WY (a:List UInt8)(r:Int):Sm MV.b (tl [.s a,.i .i32 r]) (DQ a r):=by unfold Sm tl DQ;dsimp only;cases decide (0<=r/\r<128)<;>rfl
theorem ad4 (a s:List UInt8):Sm (KR MV.s) (Ag [.s a,.s s]) (NP a s):=by
 unfold Sm NP;split
 ·rename_i c;unfold Ag;dsimp only;cases aaH a.length 4294967280<;>rfl
 ·rename_i h;unfold Ag;split
  ·rename_i h2;simp only [adj,MV.s.injEq,and_true] at h2;exact absurd h2.2 (h _)
  ·rfl
end Dn
/-
  Functions of package strings as table entries, by the shelf's contracts. Conditions: none.
-/
namespace Dn
open Go
theorem WZ (c:UInt8): ∀l:List UInt8,Lib.splitK [c] 0 (Lib.count l [c]) l=cy c l:=by
 intro l;induction l with
 |nil=>rw [Lib.count_one];rfl
 |cons b l ih=>
  by_cases hb:b=c
  ·subst hb;have Yl:ac6 (b::l) [b]=0:=by rw [ac6];simp [List.isPrefixOf]
   rw [Lib.count_cons_eq,afM,Lib.splitK,Yl];simp [cy,ih]
  ·rw [Lib.count_cons_ne b c l hb];have hp:([c]:List UInt8).isPrefixOf (b::l)=false:=by simp [List.isPrefixOf,ahK hb]
   have Yl:ac6 (b::l) [c]=if ac6 l [c]== -1 then-1 else ac6 l [c]+1:=by rw [ac6,hp];simp
   simp only [cy,hb,if_false];rw [<-ih];cases hk:Lib.count l [c] with
   |zero=>rfl
   |succ k=>
    have dG:ac6 l [c]≠ -1:=by intro he;rw [Lib.count_miss he] at hk;cases hk
    have hge:=Lib.index_ge l [c];obtain ⟨j,hj⟩: ∃j:Nat,ac6 l [c]=j:=⟨(ac6 l [c]).toNat,by omega⟩
    have ad5:(ac6 l [c]== -1)=false:=by simpa using dG
    rw [ad5,if_neg (by decide)] at Yl;have apu:(ac6 (b::l) [c]== -1)=false:=by rw [Yl,hj];simp;omega
    rw [Lib.splitK,Lib.splitK,ad5,apu,Yl,hj];have e1:((j:Int)+1).toNat=j+1:=by omega
    simp [e1]
theorem W0 (c:UInt8)(s:ByteArray):(af1 ⟨#[c]⟩ 0 (acI s ⟨#[c]⟩) s).map (·.data.toList)=cy c s.data.toList:=by rw [Lib.splitB_data];exact WZ c _
section
variable {P:Program} {ρ:Go.Shelf.Ren}{c:Ctx}
theorem Fl {f:FuncId}{args:Array Value}{w:World}{S:Ending->World->Prop}{R:Value->World->Prop}(he: ∀args w,(callFunc f args).run P w= .ok (.enter f args) w)(hc:Calls P f args w S)(h: ∀e w',S e w'-> ∃v,e= .returned v/\R v w'): ia P f args w R:=by unfold ia;rw [he];exact hc.mono h
theorem NQ {key:Nat->Nat} {φ:Ph}{v:Value}{l:List UInt8}(h:nn key φ [v] (.s l)): ∃b:ByteArray,v= .string b/\b.data.toList=l:=by generalize hv:[v]=vs at h;cases h;rename_i b;exact ⟨b,by simpa using hv,rfl⟩
theorem Vi {Z:Nat->Prop} {φ:Ph}{w:World}{k:Nat}{vs:List Value}{a b:List UInt8}(hg:c.fe k=false)(h:fU c Z φ w k vs [.s a,.s b]): ∃x y:ByteArray,vs=[.string x,.string y]/\x.data.toList=a/\y.data.toList=b:=by simp only [fU,hg,By,if_false] at h;obtain ⟨v,u,rfl,⟨_,h1⟩,v2,u2,rfl,⟨_,h2⟩,rfl⟩:=h;obtain ⟨x,rfl,hx⟩:=NQ h1;obtain ⟨y,rfl,hy⟩:=NQ h2;exact ⟨x,y,rfl,hx,hy⟩
theorem ad6 {Z:Nat->Prop} {φ:Ph}{w:World}{k:Nat}{kd:IntKind}{vs:List Value}{a:List UInt8}{n:Int}(hg:c.fe k=false)(h:fU c Z φ w k vs [.s a,.i kd n]): ∃x:ByteArray,vs=[.string x,.int kd n]/\x.data.toList=a:=by simp only [fU,hg,By,if_false] at h;obtain ⟨v,u,rfl,⟨_,h1⟩,v2,u2,rfl,⟨_,h2⟩,rfl⟩:=h;obtain ⟨x,rfl,hx⟩:=NQ h1;generalize hv:[v2]=vs at h2;cases h2;simp at hv;subst hv;exact ⟨x,rfl,hx⟩
theorem W5 (w:World)(q:Nat):Rest w (w.drewN q):=⟨rfl,rfl,rfl,λ_=>rfl⟩
theorem aaz {φ:Ph}{w:World}(hi:Co φ w){b:Nat}(hb:w.heap.size<=b)(off:Nat):φ b off=none:=by
 cases hp:φ b off with
 |none=>rfl
 |some u=>have:=aaK w _ (hi _ _ _ hp);simp at this;omega
theorem ad7 (L:aic P ρ)(alH:(P.info? (ρ.t 116)).map (λi=>(i.zero,i.size))=some (some (.agg (IS 256 (.bool false))),256))(hg:c.fe (c.key (ρ.f 160))=false){ms:List MV}{r:MV}(h:IU ms=some r): lY P c (ρ.f 160) ms r:=by
 unfold IU at h;split at h
 ·rename_i a b;cases hb:(aaH 1 a.length&&aaH a.length (2^46))&&(aaH 2 b.length&&(aaH b.length 1000&&b.all λx=>decide (x.toNat<128))) with
  |false=>rw [hb] at h;cases h
  |true=>
   rw [hb] at h;simp only [cond_true,IN] at h;subst h;simp only [sh] at hb;obtain ⟨⟨h1,h2⟩,h3,h4,h5⟩:=hb;have h1:=No h1;have h2:=No h2;have h3:=No h3;have h4:=No h4;intro φ w Z vs hz ha hi;obtain ⟨x,y,rfl,rfl,rfl⟩:=Vi hg ha;refine Fl (afJ L.f160 (by kernel_rfl) rfl) (Go.Proofs.Any.strings_Trim_set L (Go.zero_of_info alH).1 (Go.zero_of_info alH).2 x y w (by rw [aeK];exact h3) (by rw [aeK];omega) (by rw [aeK];omega) (by rw [aeK];omega) (Go.Proofs.ascii_of_all h5)) ?_;rintro e w' ⟨rfl,q,rfl⟩;refine ⟨_,rfl,φ,?_,?_,?_⟩
   ·have g1:=eG.alloc w (aeA y.data.toList) (ρ.t 116);have g2:=eG.alloc (w.alloc (.cells (aeA y.data.toList) (ρ.t 116))) (aeA y.data.toList) (ρ.t 116);have g:=g1.trans' g2;exact ⟨.refl φ,λb _ hl=>g.Bg b hl,λ_ _ _=>rfl,g.size,g.rest.trans (W5 _ q)⟩
   ·intro b o v hv;have g1:=eG.alloc w (aeA y.data.toList) (ρ.t 116);have g2:=eG.alloc (w.alloc (.cells (aeA y.data.toList) (ρ.t 116))) (aeA y.data.toList) (ρ.t 116);exact (g1.trans' g2).cell (hi b o v hv)
   ·exact ⟨rfl,by have:=nn.s (key:=c.key) (φ:=φ) (⟨(aia x.data.toList y.data.toList).toArray⟩:ByteArray);simpa using this⟩
 ·cases h
theorem Tl (L:aih P ρ)(hg:c.fe (c.key (ρ.f 151))=false){ms:List MV}{r:MV}(h:tl ms=some r):lY P c (ρ.f 151) ms r:=by
 unfold tl at h;split at h
 ·rename_i a n;cases hb:decide (0<=n/\n<128) with
  |false=>rw [hb] at h;cases h
  |true=>rw [hb] at h;simp only [cond_true,IN] at h;subst h;obtain ⟨h1,h2⟩:=of_decide_eq_true hb;intro φ w Z vs hz ha hi;obtain ⟨x,rfl,rfl⟩:=ad6 hg ha;refine Fl (afJ L.f151 (by kernel_rfl) rfl) (agG L x n w h1 h2) ?_;rintro e w' ⟨rfl,rfl⟩;exact ⟨_,rfl,φ,.refl _ _ _,hi,rfl,.b _⟩
 ·cases h
open Go.Proofs Go.Shelf Go.RowKit in
theorem W6 (L:ahf P ρ)(hi9:(P.info? (ρ.t 9)).map (λi=>(i.zero,i.size,i.bytes))=some (some (.string ByteArray.empty),1,16))(s:ByteArray)(b:UInt8)(w:World)(hs:s.size<4294967281): Calls P (ρ.f 146) #[.string s,.string ⟨#[b]⟩] w λe w'=>
  e= .returned (.slice (some ⟨w.heap.size,0,none⟩) (acI s ⟨#[b]⟩+1) (acI s ⟨#[b]⟩+1))/\w'=w.alloc (.cells ((af1 ⟨#[b]⟩ 0 (acI s ⟨#[b]⟩) s).map afO).toArray (ρ.t 9)):=by
 have h1:1<=(⟨#[b]⟩:ByteArray).size:=aaa _;have hle:=Lib.countB_le ⟨#[b]⟩ h1 s.size s (aaa _);have hlen:=Lib.splitB_all ⟨#[b]⟩ h1 0 _ s rfl;have hC:Calls P (ρ.f 138) #[.string s,.string ⟨#[b]⟩] w λe w'=>e= .returned (.int .i64 (acI s ⟨#[b]⟩))/\w'=w:=by
  refine (Any.strings_Count_one {L with} s b w).mono λe w' ⟨he,hw⟩=>⟨?_,hw⟩
  rw [he];show _=Ending.returned (aiA .i64 ((Lib.count s.data.toList [b]:Nat):Int));rw [Lib.count_one];rfl
 have c:=Any.strings_genSplit_core {L with} hi9 s ⟨#[b]⟩ 0 (-1) (acI s ⟨#[b]⟩+1) w hs h1 (acF _) (λx q hx=>(Any.strings_Index_one {L with} x b _).mono λe w' ⟨he,hw⟩=>⟨by rw [he];show _=Ending.returned (aiA .i64 (ac6 x.data.toList [b]));rw [Lib.index_one],hw⟩) hC (by decide) (by decide) (by rw [if_pos (by decide)];omega);rw [Nat.add_sub_cancel,hlen] at c;have e2:Lib.cellsOf (af1 ⟨#[b]⟩ 0 (acI s ⟨#[b]⟩) s) (acI s ⟨#[b]⟩+1)=((af1 ⟨#[b]⟩ 0 (acI s ⟨#[b]⟩) s).map afO).toArray:=by rw [<-hlen];exact Lib.cellsOf_full _
 rw [e2] at c;clear hC hlen hle e2;have t3:=L.t3;have t9:=L.t9;have t31:=L.t31;have a3:=L.a3;have a9:=L.a9;have a31:=L.a31;have z3:=L.z3;have v3:=L.v3;have z9:=L.z9;have v9:=L.v9;have z31:=L.z31;have v31:=L.v31;have atS: ∀args w,(callFunc (ρ.f 221) args).run P w= .ok (.enter (ρ.f 221) args) w:=enters_of L.f221 (by kernel_rfl) rfl;go_enter L.f146,Body.n146_ntmps ρ;go_wp2_with (go_at_fn (ρ.f 221);refine c.mono ?_;rintro e w' ⟨rfl,hw⟩;rw [hw]);go_ret;exact ⟨rfl,rfl⟩
theorem IV {key:Nat->Nat} {φ:Ph}: ∀l:List ByteArray,bx key φ 1 (l.map afO) (l.map λb=>MV.s b.data.toList)
 |[]=>rfl
 |b::l=>⟨[.string b],_,rfl,rfl,.s b,IV l⟩
theorem aaA {I:TI}(L:ahf P ρ)(hi9:(P.info? (ρ.t 9)).map (λi=>(i.zero,i.size,i.bytes))=some (some (.string ByteArray.empty),1,16))(hg:c.fe (c.key (ρ.f 146))=false)(kI:c.sf (c.key (ρ.f 146))=ρ.t 9)(hI:c.tv (ρ.t 9)=some I)(O1:I.size=1){ms:List MV}{r:MV}(h:Ag ms=some r):lY P c (ρ.f 146) ms r:=by
 unfold Ag at h;split at h
 ·rename_i a b;cases hb:aaH a.length 4294967280 with
  |false=>rw [hb] at h;cases h
  |true=>
   rw [hb] at h;simp only [cond_true,IN] at h;subst h;have hb:=No hb;intro φ w Z vs hz ha hi;obtain ⟨x,y,rfl,rfl,hy⟩:=Vi hg ha;have hy':y=⟨#[b]⟩:=by
    cases y with
    |mk d=>congr 1;apply ac4.1;exact hy
   subst hy';have hs:x.size<4294967281:=by rw [aeK];omega
   refine Fl (afJ L.f146 (by kernel_rfl) rfl) (W6 L hi9 x b w hs) ?_;rintro e w' ⟨rfl,rfl⟩;have h1:1<=(⟨#[b]⟩:ByteArray).size:=aaa _;have hle:=Lib.countB_le ⟨#[b]⟩ h1 x.size x (aaa _);have hlen:=Lib.splitB_all ⟨#[b]⟩ h1 0 _ x rfl;have oM:=W0 b x;have g1:=eG.alloc w ((af1 ⟨#[b]⟩ 0 (acI x ⟨#[b]⟩) x).map afO).toArray (ρ.t 9);obtain ⟨uC,hc⟩:=cc hI;refine ⟨_,rfl,φ,g1.trans (Z:=cb.plain Z) hz φ,λb' o v hv=>g1.cell (hi b' o v hv),?_⟩;show dH _ _ _ _ _ ⟨c.sf (c.key (ρ.f 146)),false,_⟩;rw [kI];generalize hpc:af1 ⟨#[b]⟩ 0 (acI x ⟨#[b]⟩) x=pcs at *;rw [<-oM,ahq];refine ⟨I,pcs.map afO,uC,hc,?_,by rw [O1];exact IV pcs,?_⟩
   ·rw [O1];refine ⟨by simp,.inr ⟨w.heap.size,acI x ⟨#[b]⟩+1,_,by simp [hlen],acF _,nK w _,by simp [hlen],by unfold Go.maxLen;rw [aeK] at hle;omega,by simp [hlen],?_⟩⟩;simp [aaI]
   ·intro bB mI;simp [ac1] at mI;subst mI;exact ⟨hz _ (aaa _),λoff u hu=>(by have hu:φ w.heap.size off=some u:=hu;rw [aaz hi (aaa _)] at hu;cases hu),λhc=>False.elim hc⟩
 ·cases h
end
end Dn
/-
  slices.IndexFunc and slices.DeleteFunc of the library, walked, with whatever function. Conditions: none.
-/
namespace Dn
open Go
section
variable {P:Program}{Q:Exit->Act->World->Prop}{ops:Array Oper}{o:Oper}{a:Act} {w w':World}{n:Nat} {σ:Nat->Value}
theorem tm2 (v0 v1:Value)(k:Nat):Tm {tmps:= #[v0,v1]++IS k undef,defers:=[]} (k+2) (Ab (Ab (λ_=>undef) 0 v0) 1 v1):=by
 refine ⟨rfl,by simp [afM],λq=> ?_⟩;by_cases h0:q=0
 ·subst h0;show (#[v0,v1]++IS k undef).getD 0 undef=v0;simp [abM]
 by_cases h1:q=1
 ·subst h1;show (#[v0,v1]++IS k undef).getD 1 undef=v1;simp [abM]
 have e: ∀{x y:Nat},x≠y->acw x y=false:=λ{x y} h=>by
  cases hq:acw x y with
  |false=>rfl
  |true=>exact absurd (IT hq) h
 simp only [Ab,e h0,e h1,cond_false];have h3:2<=q:=by omega
 simp [abM,agi,show¬q<2 by omega];by_cases hk:q-2<k<;>simp [hk]
theorem Tm.call {i d:Nat}{op:Op}{rest:List Nat}{f:Nat}{args:Array Value}{Rp:Value->World->Prop}(aO:Tm a n σ)(hi:ops[i]? =some o)(ho:ba o d op)(hd:d<n)(cC:(execOp (ev σ) o).run P w=(callFunc f args).run P w)(hc:ia P f args w Rp)(h: ∀v w' a',Rp v w'->Tm a' n (Ab σ d v)->wpOps P ops Q rest a' w'):wpOps P ops Q (i::rest) a w:=by rw [wpOps_cons];unfold wpOp;simp only [hi,OF,ho.guard,if_true];left;refine wD (by rw [aO.eval];exact cC) hc ?_;intro v w' hr;rw [ho.dst];exact h v w' _ hr (aO.put hd v)
theorem NR {d:Nat}{t el:TypeId}{x y:Operand}{e:Operand->Value}{g n c j size:Nat}{i:TypeInfo}(ho:ba o d (.indexAddr t x y))(hu:P.underlying t=some (.slice el))(hi:P.info? el=some i)(hs:i.size=size)(hx:e x= .slice (some ⟨g,0,none⟩) n c)(hy:e y= .int .i64 ((j:Nat):Int))(hj:j<n)(w:World):(execOp e o).run P w= .ok (.value (.pointer (some ⟨g,j *size,none⟩))) w:=by
 have h2: ¬n<=j:=by omega
 simp [execOp,ho.op,hx,hy,Instr.indexAt,asIntOf,run_underlying hu,h2,afR,typeInfo,hi,hs,adb]
theorem Hp {c:Ctx}{d:Nat}{t:TypeId}{I:TI}{x:Operand}{e:Operand->Value}{g off:Nat}{vs:List Value}(ho:ba o d (.load t x))(hr:oq c.ti P t I)(hc:I.du=[])(eR:I.st=true)(hl:vs.length=I.size)(hx:e x= .pointer (some ⟨g,off,none⟩))(hm:w.rangeAt g off vs):(execOp e o).run P w= .ok (.value (.agg vs.toArray)) w:=by
 rcases oX (P:=P) hr hc hl hm with ⟨_,h⟩|⟨h,_⟩
 ·have:=h w hm;simp [execOp,ho.op,hx,this]
 ·rw [eR] at h;cases h
theorem ad8 {d:Nat}{t:TypeId}{e:Operand->Value}{i:TypeInfo}{z:Value}(ho:ba o d (.alloc t))(hi:P.info? t=some i)(hz:i.zero=some z)(w:World): (execOp e o).run P w= .ok (.value (.pointer (some ⟨w.heap.size,0,none⟩))) (w.alloc (.cells z.cells t)):=by simp [execOp,ho.op,Instr.alloc,zeroValue,typeInfo,hi,hz,newVar,newRow,newObj,Sem.run]
theorem Vj {c:Ctx}{t:TypeId}{I:TI}{x y:Operand}{e:Operand->Value}{g off:Nat}{v:Value}{arr:Array Value}{T:TypeId}(ho:Gj o (.store t x y))(hr:oq c.ti P t I)(hc:I.du=[])(hx:e x= .pointer (some ⟨g,off,none⟩))(hy:e y=v)(hs:v.cells.toList.length=I.size)(jO: ∀u∈v.cells.toList,u.oneCell'=true)(dx:w.heap[g]? =some (.cells arr T (0,0)))(zu:off+I.size<=arr.size): (execOp e o).run P w= .ok .skip (w.setRow g (arr.toList.take off++v.cells.toList++arr.toList.drop (off+I.size)).toArray):=by have:=nM (P:=P) (w:=w) hr hc hs jO dx zu;simp [execOp,ho.op,hx,hy,this]
theorem Tm.agq {i:Nat}{op:Op}{rest:List Nat}(aO:Tm a n σ)(hi:ops[i]? =some o)(ho:Gj o op)(cC:(execOp (ev σ) o).run P w= .ok .skip w')(h:wpOps P ops Q rest a w'):wpOps P ops Q (i::rest) a w:=by rw [wpOps_cons];unfold wpOp;simp only [hi,OF,ho.guard,if_true];left;unfold afK;rw [aO.eval,cC];simp only [afQ];rw [ho.dst];exact h
theorem Qf {d:Nat} {t t':TypeId}{x y:Operand}{e:Operand->Value}{p q:Int}(ho:ba o d (.binOp .lss t x y t'))(hx:e x= .int .i64 p)(hy:e y= .int .i64 q)(w:World): (execOp e o).run P w= .ok (.value (.bool (decide (p<q)))) w:=Ac ho hx hy (λw=>by simp [agr,ahW]) w
theorem Vk {d:Nat}{x y:Operand}{t:Array TypeId}{e:Operand->Value}{g:Nat}{lb:Array Value}{v:Value}(ho:ba o d (.call {callee:= .value x,args:= #[y],argTypes:=t})) (hx:e x= .func (.func g) #[] lb) (hy:e y=v) (w:World): (execOp e o).run P w=(callFunc g (#[v]++lb)).run P w:=by simp [execOp,ho.op,resolve,invoke,hx,hy,aeE]
theorem ad9 {d:Nat}{x y:Operand}{t:Array TypeId}{e:Operand->Value}{g:Nat}{v u:Value}(ho:ba o d (.call {callee:= .value (.func g),args:= #[x,y],argTypes:=t})) (he:e (.func g)= .func (.func g) #[] #[]) (hx:e x=v) (hy:e y=u) (w:World): (execOp e o).run P w=(callFunc g #[v,u]).run P w:=by simp [execOp,ho.op,resolve,invoke,he,hx,hy,aeE]
end
def NS (r:Nat->Nat)(o:Nat->Oper):Code:= .seq (.region (r 0) #[o 0] false) (.seq (.seq (.region (r 1) #[o 1,o 2,o 3] false) (.block 0 (.loop (.seq (.region (r 2) #[o 4] false) (.seq (.cond (.tmp 9) .skip (.exit 0)) (.seq (.block 1 (.seq (.region (r 3) #[o 5,o 6] false) (.seq (.region (r 4) #[o 7,o 8,o 9,o 10,o 11,o 12] false) (.cond (.tmp 16) (.seq (.region (r 5) #[o 13,o 14] false) .ret) .skip)))) (.region (r 6) #[o 15,o 16] false))))))) (.seq (.region (r 7) #[o 17] false) .ret))
structure aik (t el ti:Nat) (o:Nat->Oper):Prop where
 h0:ba (o 0) 4 (.assign (.const (.int .i64 0)))
 h1:ba (o 1) 6 (.move (.tmp 0))
 h2:ba (o 2) 7 (.call {callee:= .builtin .len,args:= #[.tmp 6],argTypes:= #[t]})
 h3:ba (o 3) 8 (.move (.const (.int .i64 0)))
 h4:ba (o 4) 9 (.binOp .lss ti (.tmp 8) (.tmp 7) ti)
 h5:ba (o 5) 10 (.move (.tmp 8))
 h6:ba (o 6) 5 (.assign (.tmp 10))
 h7:ba (o 7) 11 (.move (.tmp 1))
 h8:ba (o 8) 12 (.move (.tmp 0))
 h9:ba (o 9) 13 (.move (.tmp 5))
 UZ:ba (o 10) 14 (.indexAddr t (.tmp 12) (.tmp 13))
 Tc:ba (o 11) 15 (.load el (.tmp 14))
 Td:ba (o 12) 16 (.call {callee:= .value (.tmp 11),args:= #[.tmp 15],argTypes:= #[el]})
 Te:ba (o 13) 17 (.move (.tmp 5))
 Tf:ba (o 14) 4 (.assign (.tmp 17))
 O5:ba (o 15) 18 (.binOp .add ti (.tmp 8) (.const (.int .i64 1)) ti)
 Tg:ba (o 16) 8 (.move (.tmp 18))
 h17:ba (o 17) 4 (.assign (.const (.int .i64 (-1))))
structure aaB (P:Program) (f t ti el:Nat) (fn:Func) (r:Nat->Nat) (o:Nat->Oper):Prop where
 pos:P.funcs[f]? =some fn
 name:(fn.name== "runtime.NumGoroutine")=false
 tmps:fn.ntmps=19
 res:fn.results= #[.tmp 4]
 body:fn.body=some (NS r o)
 ops:aik t el ti o
 xB:P.underlying t=some (.slice el)
theorem NT {P:Program}{fn:Func}{n:Nat}{a:Act}{w:World} {σ:Nat->Value}{R:Ending->World->Prop}{v:Value}(hr:fn.results= #[.tmp 4])(aO:Tm a n σ)(h6:σ 4=v)(h:R (.returned v) w):bodyPost P fn R .ret a w:=by
 refine ⟨aO.defers,v,?_,h⟩;have h2:a.tmps[4]?.getD undef=v:=by have:=aO.get 4;rw [h6] at this;simpa using this
 simp [results,hr,h2]
theorem Qg {key:Nat->Nat} {φ:Ph}{size:Nat}{xs:List MV}{cells:List Value}(h:bx key φ size cells xs){k:Nat}(hk:k<xs.length): ((cells.drop (k *size)).take size).length=size/\nn key φ ((cells.drop (k *size)).take size) xs[k]:=by
 obtain ⟨p1,v1,p2,he,Bh,sr,gm⟩:=h.at (acD hk);have:(cells.drop (k *size)).take size=v1:=by rw [he,acQ,<-Bh,ahQ,<-sr,ag9]
 rw [this];exact ⟨sr,gm⟩
theorem IW {key:Nat->Nat} {φ:Ph}{vs:List Value}{x:MV}(h:nn key φ vs x){ms:List MV}(hx:x= .agg ms):gh key φ (.agg vs.toArray) x:=by
 subst hx;cases h with
 |agg _ _ h=>exact ⟨vs.toArray,rfl,by simpa using h⟩
section
variable {P:Program}{c:Ctx}{f t ti el:Nat}{fn:Func}{r:Nat->Nat}{o:Nat->Oper}{E:TI}{n cp g0 g:Nat}{ad:Option Addr}{ob:Option Nat}{w:World}{lb:Array Value}{S:Type}{Inv:S->(Nat->Prop)->Ph->World->Prop}{step:S->MV->Option (Bool×S)}
theorem aaC (hf:aaB P f t ti el fn r o)(hp:xW P c g lb Inv step)(hT:lV P c.ti)(hE:c.tv el=some E)(eR:E.st=true){xs:List MV}{cells:List Value}{dL:Array Value}{T:TypeId} {φ0:Ph}{Z0:Nat->Prop} {s0 s':S}{ys:List MV}(IF: ∀x∈xs,∃ms,x= .agg ms)(PA:0<xs.length->ad=some ⟨g0,0,none⟩/\ob=some g0/\w.heap[g0]? =some (.cells dL T (0,0))/\dL.toList.take (xs.length *E.size)=cells)(Yi: ∀b,ob=some b-> ¬Z0 b/\b<w.heap.size/\ ∀off,φ0 b off=none)(km:bx c.key φ0 E.size cells xs)(alI:xs.length<2^63)(hinv:Inv s0 Z0 φ0 w)(lN: ∀b,w.heap.size<=b->Z0 b)(kb:Co φ0 w)(hd:nr step s0 xs=some (ys,s')): Calls P f #[.slice ad xs.length cp,.func (.func g) #[] lb] w λe W=> ∃Z φ,(∀b,ob=some b->W.heap[b]? =w.heap[b]?)/\ ((e= .returned (.int .i64 (-1))/\ys=xs/\B4 c ob Inv Z0 φ0 w s' Z φ W)\/ ∃k,∃hk:k<xs.length,∃sk,e= .returned (.int .i64 (k:Int))/\nr step s0 (xs.take (k+1))=some (xs.take k,sk)/\B4 c ob Inv Z0 φ0 w sk Z φ W):=by
 obtain ⟨oR,rP⟩:=cc hE;obtain ⟨ie,z,oQ,vP,hby,hz0,SI⟩:=sV (hT _ E oR) rP;refine calls_of_wp hf.pos hf.body ?_;rw [hf.tmps];generalize Qh:(λ(e:Ending) (W:World)=> ∃Z φ,(∀b,ob=some b->W.heap[b]? =w.heap[b]?)/\ ((e= .returned (.int .i64 (-1))/\ys=xs/\B4 c ob Inv Z0 φ0 w s' Z φ W)\/ ∃k,∃hk:k<xs.length,∃sk,e= .returned (.int .i64 (k:Int))/\nr step s0 (xs.take (k+1))=some (xs.take k,sk)/\B4 c ob Inv Z0 φ0 w sk Z φ W))=ail;have key: ∀a:Act,Tm a 19 (Ab (Ab (λ_=>undef) 0 (.slice ad xs.length cp)) 1 (.func (.func g) #[] lb))->(NS r o).wp P (bodyPost P fn ail) a w:=by
  intro a aO;unfold NS;refine wp_seq (wp_region ?_);rw [show c8 (#[o 0]:Array Oper).size=[0] from rfl];refine aO.step (v:= .int .i64 0) rfl hf.ops.h0 (by decide) (dy hf.ops.h0 _) (λa aO=> ?_);refine wp_seq (wp_seq (wp_region ?_));rw [show c8 (#[o 1,o 2,o 3]:Array Oper).size=[0,1,2] from rfl];refine aO.step (v:= .slice ad xs.length cp) rfl hf.ops.h1 (by decide) (aZ hf.ops.h1 _) (λa aO=> ?_);refine aO.step (v:= .int .i64 ((xs.length:Nat):Int)) rfl hf.ops.h2 (by decide) (nO hf.ops.h2 hf.xB rfl _) (λa aO=> ?_);refine aO.step (v:= .int .i64 0) rfl hf.ops.h3 (by decide) (aZ hf.ops.h3 _) (λa aO=> ?_);refine wp_block (wp_loop (λa W=> ∃σ,Tm a 19 σ/\σ 0= .slice ad xs.length cp/\σ 1= .func (.func g) #[] lb/\σ 7= .int .i64 ((xs.length:Nat):Int)/\ ∃k:Nat,k<=xs.length/\σ 8= .int .i64 (k:Int)/\ (∀b,ob=some b->W.heap[b]? =w.heap[b]?)/\ ∃s Z φ,nr step s0 (xs.take k)=some (xs.take k,s)/\B4 c ob Inv Z0 φ0 w s Z φ W) (λa W=>match a.tmps.getD 8 undef with| .int _ k=>xs.length-k.toNat|_=>0) ?_ ?_)
  ·refine ⟨_,aO,rfl,rfl,rfl,0,acF _,rfl,λ_ _=>rfl,s0,Z0,φ0,rfl,⟨hinv,lN,λb hb=> .inl hb,kb,.refl _ _ _,λb off hb=>(Yi b hb).2.2 off⟩⟩
  ·clear aO;rintro a W ⟨σ,aO,h0,h1,h7,k,hk,h8,DH,s,Z,φ,hdk,hW⟩;refine wp_seq (wp_region ?_);rw [show c8 (#[o 4]:Array Oper).size=[0] from rfl];have hm8:(match a.tmps.getD 8 undef with| .int _ k=>xs.length-k.toNat|_=>0)=xs.length-k:=by rw [aO.get 8,h8];simp
   rw [hm8];clear hm8;refine aO.step (v:= .bool (decide ((k:Int)<(xs.length:Int)))) rfl hf.ops.h4 (by decide) (Qf hf.ops.h4 h8 h7 _) (λa aO=> ?_);refine wp_seq ?_;by_cases dK:k<xs.length;rotate_left
   ·refine aO.cond (b:=false) (by show abT (decide ((k:Int)<(xs.length:Int)))=_;rw [decide_eq_false (by omega)]) ?_;simp only [By,if_false];refine wp_exit ?_;have Yn:k=xs.length:=by omega
    subst Yn;rw [ags] at hdk;rw [hd] at hdk;simp only [IN,acE] at hdk;obtain ⟨rfl,rfl⟩:=hdk;show Exit.then _ _ _ _ _;refine wp_seq (wp_region ?_);rw [show c8 (#[o 17]:Array Oper).size=[0] from rfl];refine aO.step (v:= .int .i64 (-1)) rfl hf.ops.h17 (by decide) (dy hf.ops.h17 _) (λa aO=> ?_);refine wp_ret ?_;refine NT hf.res aO (v:= .int .i64 (-1)) rfl ?_;rw [<-Qh];exact ⟨Z,φ,DH,.inl ⟨rfl,rfl,hW⟩⟩
   ·refine aO.cond (b:=true) (by show abT (decide ((k:Int)<(xs.length:Int)))=_;rw [decide_eq_true (by omega)]) ?_;simp only [if_true];refine wp_skip ?_;obtain ⟨aim,Wt,dx,bT⟩:=PA (by omega);have h0':=h0;rw [aim] at h0';obtain ⟨yk,sk,b,sk',e1,e2,e3⟩:=U5 hd dK;rw [hdk] at e1;simp only [IN,acE] at e1;obtain ⟨rfl,rfl⟩:=e1;have aaD:=km.mono hW.tr.ph;obtain ⟨hl,gm⟩:=Qg aaD dK;have ain:W.rangeAt g0 (k *E.size) ((cells.drop (k *E.size)).take E.size):=by
     intro j v hj;have KA:j<E.size:=by have:=(acJ.1 hj).1;omega
     have hW0:W.heap[g0]? =some (.cells dL T (0,0)):=(DH g0 Wt).trans dx;rw [cell_of hW0,<-adq];rw [adK KA,acC,<-bT,aec] at hj;split at hj
     ·exact hj
     ·cases hj
    obtain ⟨ms,Ww⟩:=IF _ (agm dK);have S8:gh c.key φ (.agg ((cells.drop (k *E.size)).take E.size).toArray) xs[k]:=IW gm Ww;refine wp_seq (wp_block ?_);refine wp_seq (wp_region ?_);rw [show c8 (#[o 5,o 6]:Array Oper).size=[0,1] from rfl];refine aO.step (v:= .int .i64 (k:Int)) rfl hf.ops.h5 (by decide) ((aZ hf.ops.h5 _).trans (by show acA (aa6 (σ 8)) W=_;rw [h8])) (λa aO=> ?_);refine aO.step (v:= .int .i64 (k:Int)) rfl hf.ops.h6 (by decide) (dy hf.ops.h6 _) (λa aO=> ?_);refine wp_seq (wp_region ?_);rw [show c8 (#[o 7,o 8,o 9,o 10,o 11,o 12]:Array Oper).size=[0,1,2,3,4,5] from rfl];refine aO.step (v:= .func (.func g) #[] lb) rfl hf.ops.h7 (by decide) ((aZ hf.ops.h7 _).trans (by show acA (aa6 (σ 1)) W=_;rw [h1])) (λa aO=> ?_);refine aO.step (v:= .slice (some ⟨g0,0,none⟩) xs.length cp) rfl hf.ops.h8 (by decide) ((aZ hf.ops.h8 _).trans (by show acA (aa6 (σ 0)) W=_;rw [h0'])) (λa aO=> ?_);refine aO.step (v:= .int .i64 (k:Int)) rfl hf.ops.h9 (by decide) (aZ hf.ops.h9 _) (λa aO=> ?_);refine aO.step rfl hf.ops.UZ (by decide) (NR hf.ops.UZ hf.xB oQ vP rfl rfl dK _) (λa aO=> ?_);refine aO.step rfl hf.ops.Tc (by decide) (Hp hf.ops.Tc (hT _ E oR) rP eR hl rfl ain) (λa aO=> ?_);refine aO.call rfl hf.ops.Td (by decide) (Vk hf.ops.Td rfl rfl _) (hp.call hW.inv hW.new hW.qe S8 e2) ?_;rintro v W2 a ⟨rfl,φ',t1,t2,t3⟩ aO;have hnz: ∀b,ob=some b-> ¬Z b:=λb hb hz=>by
     have:=Yi b hb;rcases hW.sub _ hz with h|h
     ·exact this.1 h
     ·omega
    have UP: ∀b,ob=some b->W2.heap[b]? =w.heap[b]? :=λb hb=>(t1.heap b (hnz b hb) (adY (Yi b hb).2.1 hW.tr.size)).trans (DH b hb);have WW:B4 c ob Inv Z0 φ0 w sk' Z φ' W2:=⟨t3,λb hb=>hW.new b (acM t1.size hb),hW.sub,t2,hW.tr.trans (t1.sup λb hb=> .inl (hW.sub b hb)),λb off hb=>by rw [t1.free b off (hnz b hb)];exact hW.free b off hb⟩
    cases b with
    |true=>refine aO.cond (b:=true) rfl ?_;simp only [if_true];refine wp_seq (wp_region ?_);rw [show c8 (#[o 13,o 14]:Array Oper).size=[0,1] from rfl];refine aO.step (v:= .int .i64 (k:Int)) rfl hf.ops.Te (by decide) (aZ hf.ops.Te _) (λa aO=> ?_);refine aO.step (v:= .int .i64 (k:Int)) rfl hf.ops.Tf (by decide) (dy hf.ops.Tf _) (λa aO=> ?_);refine wp_ret ?_;refine NT hf.res aO (v:= .int .i64 (k:Int)) rfl ?_;rw [<-Qh];exact ⟨Z,φ',UP,.inr ⟨k,dK,sk',rfl,e3,WW⟩⟩
    |false=>
     refine aO.cond (b:=false) rfl ?_;simp only [By,if_false];refine wp_skip ?_;show Code.wp P (age (r 6) #[o 15,o 16] false) _ a W2;refine wp_region ?_;rw [show c8 (#[o 15,o 16]:Array Oper).size=[0,1] from rfl];refine aO.step (v:= .int .i64 ((k+1:Nat):Int)) rfl hf.ops.O5 (by decide) (kL (q:=1) hf.ops.O5 h8 rfl (by omega) _) (λa aO=> ?_);refine aO.step (v:= .int .i64 ((k+1:Nat):Int)) rfl hf.ops.Tg (by decide) (aZ hf.ops.Tg _) (λa aO=> ?_);refine ⟨⟨_,aO,h0,h1,h7,k+1,by omega,rfl,UP,sk',Z,φ',?_,WW⟩,?_⟩
     ·rw [e3];have e4:xs.take (k+1)=xs.take k++[xs[k]]:=by rw [ahp,acD dK];rfl
      rw [e4];rfl
     ·have:a.tmps.getD 8 undef= .int .i64 ((k+1:Nat):Int):=by rw [aO.get 8];rfl
      rw [this];simp;omega
 exact key _ (tm2 _ _ 17)
end
end Dn
/-
  slices.DeleteFunc of the library, walked, with whatever function. Conditions: none.
-/
namespace Dn
open Go
theorem Ah {P:Program}{f:Nat}{fn:Func}{b:Code}{args:Array Value}{w:World}{R:Value->World->Prop}(fg:P.funcs[f]? =some fn)(DC:(fn.name== "runtime.NumGoroutine")=false)(qT:fn.body=some b)
 (h:Calls P f args w λe W=> ∃v,e= .returned v/\R v W):ia P f args w R:=by
 have cC:(callFunc f args).run P w= .ok (.enter f args) w:=by
  have GM: ¬fn.name= "runtime.NumGoroutine" :=by simpa using DC
  simp [callFunc,fg,GM,qT]
 unfold ia;rw [cC];exact h
def IX (r:Nat->Nat)(o:Nat->Oper):Code:= .seq (.region (r 0) #[o 0] false) (.seq (.region (r 1) #[o 1,o 2,o 3,o 4] false) (.seq (.seq (.region (r 2) #[o 5,o 6] false) (.cond (.tmp 12) (.seq (.region (r 3) #[o 7,o 8] false) .ret) .skip)) (.seq (.seq (.region (r 4) #[o 9,o 10,o 11] false) (.block 0 (.loop (.seq (.seq (.region (r 5) #[o 12,o 13,o 14,o 15] false) (.cond (.tmp 19) .skip (.exit 0))) (.seq (.block 1 (.seq (.region (r 6) #[o 16,o 17,o 18,o 19,o 20,o 21] false) (.seq (.region (r 7) #[o 22,o 23,o 24,o 25] false) (.cond (.tmp 29) (.seq (.region (r 8) #[o 26,o 27,o 28,o 29,o 30] false) (.region (r 9) #[o 31,o 32,o 33] false)) .skip)))) (.region (r 10) #[o 34,o 35,o 36] false)))))) (.seq (.region (r 11) #[o 37,o 38,o 39,o 40] false) (.seq (.region (r 12) #[o 41,o 42,o 43,o 44] false) .ret)))))
structure aea (t el ti tb fu fi:Nat) (o:Nat->Oper):Prop where
 h0:ba (o 0) 4 (.assign (.const (.slice none 0 0)))
 h1:ba (o 1) 8 (.move (.tmp 0))
 h2:ba (o 2) 9 (.move (.tmp 1))
 h3:ba (o 3) 10 (.call {callee:= .value (.func fi),args:= #[.tmp 8,.tmp 9],argTypes:= #[t,fu]})
 h4:ba (o 4) 5 (.assign (.tmp 10))
 h5:ba (o 5) 11 (.move (.tmp 5))
 h6:ba (o 6) 12 (.binOp .eql ti (.tmp 11) (.const (.int .i64 (-1))) ti)
 h7:ba (o 7) 13 (.move (.tmp 0))
 h8:ba (o 8) 4 (.assign (.tmp 13))
 h9:ba (o 9) 14 (.move (.tmp 5))
 UZ:ba (o 10) 15 (.binOp .add ti (.tmp 14) (.const (.int .i64 1)) ti)
 Tc:ba (o 11) 6 (.assign (.tmp 15))
 Td:ba (o 12) 16 (.move (.tmp 6))
 Te:ba (o 13) 17 (.move (.tmp 0))
 Tf:ba (o 14) 18 (.call {callee:= .builtin .len,args:= #[.tmp 17],argTypes:= #[t]})
 O5:ba (o 15) 19 (.binOp .lss ti (.tmp 16) (.tmp 18) ti)
 Tg:ba (o 16) 22 (.move (.tmp 0))
 h17:ba (o 17) 23 (.move (.tmp 6))
 h18:ba (o 18) 24 (.indexAddr t (.tmp 22) (.tmp 23))
 h19:ba (o 19) 25 (.load el (.tmp 24))
 h20:ba (o 20) 7 (.alloc el)
 h21:Gj (o 21) (.store el (.tmp 7) (.tmp 25))
 h22:ba (o 22) 26 (.move (.tmp 1))
 h23:ba (o 23) 27 (.load el (.tmp 7))
 h24:ba (o 24) 28 (.call {callee:= .value (.tmp 26),args:= #[.tmp 27],argTypes:= #[el]})
 h25:ba (o 25) 29 (.unOp .not tb (.tmp 28))
 h26:ba (o 26) 30 (.move (.tmp 0))
 h27:ba (o 27) 31 (.move (.tmp 5))
 h28:ba (o 28) 32 (.load el (.tmp 7))
 h29:ba (o 29) 33 (.indexAddr t (.tmp 30) (.tmp 31))
 h30:Gj (o 30) (.store el (.tmp 33) (.tmp 32))
 h31:ba (o 31) 34 (.move (.tmp 5))
 h32:ba (o 32) 35 (.binOp .add ti (.tmp 34) (.const (.int .i64 1)) ti)
 h33:ba (o 33) 5 (.assign (.tmp 35))
 h34:ba (o 34) 20 (.move (.tmp 6))
 h35:ba (o 35) 21 (.binOp .add ti (.tmp 20) (.const (.int .i64 1)) ti)
 h36:ba (o 36) 6 (.assign (.tmp 21))
 h37:ba (o 37) 36 (.move (.tmp 0))
 h38:ba (o 38) 37 (.move (.tmp 5))
 h39:ba (o 39) 38 (.slice t (.tmp 36) (some (.tmp 37)) none none)
 h40:Gj (o 40) (.call {callee:= .builtin .clear,args:= #[.tmp 38],argTypes:= #[t]})
 h41:ba (o 41) 39 (.move (.tmp 0))
 h42:ba (o 42) 40 (.move (.tmp 5))
 h43:ba (o 43) 41 (.slice t (.tmp 39) none (some (.tmp 40)) none)
 h44:ba (o 44) 4 (.assign (.tmp 41))
structure aaE (P:Program) (f t ti tb fu fi el:Nat) (fn:Func) (r:Nat->Nat) (o:Nat->Oper):Prop where
 pos:P.funcs[f]? =some fn
 name:(fn.name== "runtime.NumGoroutine")=false
 tmps:fn.ntmps=42
 res:fn.results= #[.tmp 4]
 body:fn.body=some (IX r o)
 ops:aea t el ti tb fu fi o
 xB:P.underlying t=some (.slice el)
section
variable {P:Program}{c:Ctx}{f fi t ti tb fu el:Nat}{fn fni:Func}{r ri:Nat->Nat}{o oi:Nat->Oper}{E:TI}{cp g0 g:Nat}{ad:Option Addr}{ob:Option Nat}{w W W2:World}{lb:Array Value}{S:Type}{Inv:S->(Nat->Prop)->Ph->World->Prop}{step:S->MV->Option (Bool×S)}{Z0 Z:Nat->Prop} {φ0 φ:Ph}{s:S}
theorem B4.move (hp:xW P c g lb Inv step)(hW:B4 c ob Inv Z0 φ0 w s Z φ W)(wu:W.heap.size<=W2.heap.size)(zX: ∀b,b<W.heap.size->ob≠some b->W2.heap[b]? =W.heap[b]?)(Ct:Rest W W2)(hnz: ∀b,ob=some b-> ¬Z b): B4 c ob Inv Z0 φ0 w s (λb=>(Z b/\b<W.heap.size)\/W2.heap.size<=b) φ W2:=by
 have hws:=hW.tr.size;refine ⟨hp.mono (hp.frame hW.inv wu λb hz hb=>zX b hb (λe=>hnz b e hz)) λb hb=> .inl hb,λb hb=> .inr hb,λb hb=> ?_,λb off v hv=> ?_,?_,hW.free⟩
 ·rcases hb with hb|hb
  ·exact hW.sub b hb.1
  ·exact .inr (by omega)
 ·have h1:=hW.qe b off v hv;have dK:=aaK W _ h1;have dG:ob≠some b:=by intro e;rw [hW.free b off e] at hv;cases hv
  rw [acO (zX b dK dG)];exact h1
 ·refine hW.tr.trans ⟨.refl _,λb hb dK=> ?_,λ_ _ _=>rfl,wu,Ct⟩;exact zX b dK (λe=>hb (.inr e))
structure alK (c:Ctx) (sz n cp:Nat) (cells:List Value) (dL:Array Value) (φ:Ph) (i j:Nat) (ys:List MV):Prop where
 size:dL.size=cp *sz
 done:bx c.key φ sz (dL.toList.take (i *sz)) ys
 len:ys.length=i
 rest:(dL.toList.take (n *sz)).drop (j *sz)=cells.drop (j *sz)
def aeb (c:Ctx)(ob:Option Nat){S:Type}(Inv:S->(Nat->Prop)->Ph->World->Prop)(step:S->MV->Option (Bool×S))(Z0:Nat->Prop) (φ0:Ph)(w:World)(xs ys:List MV) (s0 s':S)(v:Value)(W:World):Prop:=∃Z φ,(∀b,ob=some b->W.heap[b]? =w.heap[b]?)/\((v= .int .i64 (-1)/\ys=xs/\B4 c ob Inv Z0 φ0 w s' Z φ W)\/ ∃k,∃hk:k<xs.length,∃sk,v= .int .i64 (k:Int)/\nr step s0 (xs.take (k+1))=some (xs.take k,sk)/\B4 c ob Inv Z0 φ0 w sk Z φ W)
theorem Qi (hf:aaE P f t ti tb fu fi el fn r o)(hfi:aaB P fi t ti el fni ri oi)(hp:xW P c g lb Inv step)(hT:lV P c.ti)(hE:c.tv el=some E)(eR:E.st=true)(fg:0<E.size){xs:List MV}{cells:List Value}{dL:Array Value} {s0 s':S}{ys:List MV}(IF: ∀x∈xs,∃ms,x= .agg ms)(PA:0<xs.length->ad=some ⟨g0,0,none⟩/\ob=some g0/\w.heap[g0]? =some (.cells dL el (0,0))/\dL.toList.take (xs.length *E.size)=cells/\xs.length<=cp/\dL.size=cp *E.size)(Yi: ∀b,ob=some b-> ¬Z0 b/\b<w.heap.size/\ ∀off,φ0 b off=none)(km:bx c.key φ0 E.size cells xs)(alI:xs.length<2^63)(hinv:Inv s0 Z0 φ0 w)(lN: ∀b,w.heap.size<=b->Z0 b)(kb:Co φ0 w)(hd:nr step s0 xs=some (ys,s')): Calls P f #[.slice ad xs.length cp,.func (.func g) #[] lb] w λe W=> ∃v,e= .returned v/\ ∃Z φ,B4 c ob Inv Z0 φ0 w s' Z φ W/\ ((v= .slice ad xs.length cp/\ys=xs/\ ∀b,ob=some b->W.heap[b]? =w.heap[b]?)\/ (0<xs.length/\v= .slice (some ⟨g0,0,none⟩) ys.length cp/\ ∃nd,W.heap[g0]? =some (.cells nd el (0,0))/\nd.size=cp *E.size/\bx c.key φ E.size (nd.toList.take (ys.length *E.size)) ys)):=by
 obtain ⟨oR,rP⟩:=cc hE;obtain ⟨ie,z,oQ,vP,hby,hz0,SI⟩:=sV (hT _ E oR) rP;obtain ⟨ie2,z2,aar,YV,hzr⟩:=CR hE hT;rw [oQ] at aar;cases aar;rw [hz0] at YV;cases YV;have hz1: ∀v∈z.cells.toList,v.oneCell'=true:=(hzr (qg c.key λ_ _=>none)).cells;have alL:ia P fi #[.slice ad xs.length cp,.func (.func g) #[] lb] w (aeb c ob Inv step Z0 φ0 w xs ys s0 s'):=by
  refine Ah hfi.pos hfi.name hfi.body ((aaC hfi hp hT hE eR IF (λh=>⟨(PA h).1,(PA h).2.1,(PA h).2.2.1,(PA h).2.2.2.1⟩) Yi km alI hinv lN kb hd).mono ?_);rintro e W ⟨Z,φ,h1,h2⟩;rcases h2 with ⟨rfl,h3,h4⟩|⟨k,hk,sk,rfl,h3,h4⟩
  ·exact ⟨_,rfl,Z,φ,h1,.inl ⟨rfl,h3,h4⟩⟩
  ·exact ⟨_,rfl,Z,φ,h1,.inr ⟨k,hk,sk,rfl,h3,h4⟩⟩
 refine calls_of_wp hf.pos hf.body ?_;rw [hf.tmps];generalize Qh:(λ(e:Ending) (W:World)=> ∃v,e= .returned v/\ ∃Z φ,B4 c ob Inv Z0 φ0 w s' Z φ W/\ ((v= .slice ad xs.length cp/\ys=xs/\ ∀b,ob=some b->W.heap[b]? =w.heap[b]?)\/ (0<xs.length/\v= .slice (some ⟨g0,0,none⟩) ys.length cp/\ ∃nd,W.heap[g0]? =some (.cells nd el (0,0))/\nd.size=cp *E.size/\bx c.key φ E.size (nd.toList.take (ys.length *E.size)) ys)))=ail;have key: ∀a:Act,Tm a 42 (Ab (Ab (λ_=>undef) 0 (.slice ad xs.length cp)) 1 (.func (.func g) #[] lb))->(IX r o).wp P (bodyPost P fn ail) a w:=by
  intro a aO;unfold IX;refine wp_seq (wp_region ?_);rw [show c8 (#[o 0]:Array Oper).size=[0] from rfl];refine aO.step (v:= .slice none 0 0) rfl hf.ops.h0 (by decide) (dy hf.ops.h0 _) (λa aO=> ?_);refine wp_seq (wp_region ?_);rw [show c8 (#[o 1,o 2,o 3,o 4]:Array Oper).size=[0,1,2,3] from rfl];refine aO.step (v:= .slice ad xs.length cp) rfl hf.ops.h1 (by decide) (aZ hf.ops.h1 _) (λa aO=> ?_);refine aO.step (v:= .func (.func g) #[] lb) rfl hf.ops.h2 (by decide) (aZ hf.ops.h2 _) (λa aO=> ?_);refine aO.call rfl hf.ops.h3 (by decide) (ad9 hf.ops.h3 rfl rfl rfl _) alL ?_;clear alL;rintro v W1 a1 ⟨Z,φ,DH,z6⟩ alM;clear aO;refine alM.step (v:=v) rfl hf.ops.h4 (by decide) (dy hf.ops.h4 _) (λa2 aan=> ?_);clear alM;refine wp_seq (wp_seq (wp_region ?_));rw [show c8 (#[o 5,o 6]:Array Oper).size=[0,1] from rfl];refine aan.step (v:=v) rfl hf.ops.h5 (by decide) (aZ hf.ops.h5 _) (λa3 aio=> ?_);clear aan;rcases z6 with ⟨rfl,rfl,hW⟩|⟨k,hk,sk,rfl,hdk,hW⟩
  ·refine aio.step (v:= .bool (decide ((-1:Int)= -1))) rfl hf.ops.h6 (by decide) (qC hf.ops.h6 rfl rfl _) (λa aO=> ?_);refine aO.cond (b:=true) (by show abT (decide ((-1:Int)= -1))=_;rfl) ?_;simp only [if_true];refine wp_seq (wp_region ?_);rw [show c8 (#[o 7,o 8]:Array Oper).size=[0,1] from rfl];refine aO.step (v:= .slice ad ys.length cp) rfl hf.ops.h7 (by decide) (aZ hf.ops.h7 _) (λa aO=> ?_);refine aO.step (v:= .slice ad ys.length cp) rfl hf.ops.h8 (by decide) (dy hf.ops.h8 _) (λa aO=> ?_);refine wp_ret ?_;refine NT hf.res aO (v:= .slice ad ys.length cp) rfl ?_;rw [<-Qh];exact ⟨_,rfl,Z,φ,hW,.inl ⟨rfl,rfl,DH⟩⟩
  ·refine aio.step (v:= .bool (decide ((k:Int)= -1))) rfl hf.ops.h6 (by decide) (qC hf.ops.h6 rfl rfl _) (λa aO=> ?_);refine aO.cond (b:=false) (by show abT (decide ((k:Int)= -1))=_;rw [decide_eq_false (by omega)]) ?_;simp only [By,if_false];refine wp_skip ?_;refine wp_seq (wp_seq (wp_region ?_));rw [show c8 (#[o 9,o 10,o 11]:Array Oper).size=[0,1,2] from rfl];refine aO.step (v:= .int .i64 (k:Int)) rfl hf.ops.h9 (by decide) (aZ hf.ops.h9 _) (λa aO=> ?_);refine aO.step (v:= .int .i64 ((k+1:Nat):Int)) rfl hf.ops.UZ (by decide) (kL (q:=1) hf.ops.UZ rfl rfl (by omega) _) (λa aO=> ?_);refine aO.step (v:= .int .i64 ((k+1:Nat):Int)) rfl hf.ops.Tc (by decide) (dy hf.ops.Tc _) (λa4 alN=> ?_);clear aio aO;obtain ⟨aim,Wt,dx,bT,alO,apy⟩:=PA (by omega);have LO:=Yi g0 Wt;have alP: ∀b,ob=some b->b=g0:=λb hb=>by rw [Wt] at hb;exact (ahC hb).symm
   have hmul: ∀{a b:Nat},a<=b->a *E.size<=b *E.size:=λh=>ab1 _ h;refine wp_block (wp_loop (λa W=> ∃σ,Tm a 42 σ/\σ 0= .slice (some ⟨g0,0,none⟩) xs.length cp/\σ 1= .func (.func g) #[] lb/\ ∃i j:Nat,i<j/\j<=xs.length/\σ 5= .int .i64 (i:Int)/\σ 6= .int .i64 (j:Int)/\ ∃nd sj Z φ yj,W.heap[g0]? =some (.cells nd el (0,0))/\nr step s0 (xs.take j)=some (yj,sj)/\B4 c ob Inv Z0 φ0 w sj Z φ W/\alK c E.size xs.length cp cells nd φ i j yj) (λa W=>match a.tmps.getD 6 undef with| .int _ k=>xs.length-k.toNat|_=>0) ?_ ?_)
   ·refine ⟨_,alN,by show Value.slice ad xs.length cp=_;rw [aim],rfl,k,k+1,by omega,by omega,rfl,rfl,dL,sk,Z,φ,xs.take k,(DH g0 Wt).trans dx,hdk,hW,⟨apy,?_,by rw [AS];omega,by rw [bT]⟩⟩;have h1:=(km.mono hW.tr.ph).take k;rw [<-bT,aey] at h1;have h2:Nat.min (k *E.size) (xs.length *E.size)=k *E.size:=acL (hmul (by omega));rw [show min (k *E.size) (xs.length *E.size)=k *E.size from h2] at h1;exact h1
   ·clear DH hdk hW alN dx;rintro a W ⟨σ,aO,h0,h1,i,j,Nn,hjn,h5,h6,nd,sj,Z',φ',yj,DH,hdj,hW,hR⟩;have hm6:(match a.tmps.getD 6 undef with| .int _ k=>xs.length-k.toNat|_=>0)=xs.length-j:=by rw [aO.get 6,h6];simp
    rw [hm6];clear hm6;have hnz: ∀b,ob=some b-> ¬Z' b:=λb hb hz=>by
     have:=alP b hb;subst this;rcases hW.sub _ hz with h|h
     ·exact LO.1 h
     ·have:=LO.2.1;omega
    refine wp_seq (wp_seq (wp_region ?_));rw [show c8 (#[o 12,o 13,o 14,o 15]:Array Oper).size=[0,1,2,3] from rfl];refine aO.step (v:= .int .i64 (j:Int)) rfl hf.ops.Td (by decide) ((aZ hf.ops.Td _).trans (by show acA (aa6 (σ 6)) W=_;rw [h6])) (λa aO=> ?_);refine aO.step (v:= .slice (some ⟨g0,0,none⟩) xs.length cp) rfl hf.ops.Te (by decide) ((aZ hf.ops.Te _).trans (by show acA (aa6 (σ 0)) W=_;rw [h0])) (λa aO=> ?_);refine aO.step (v:= .int .i64 ((xs.length:Nat):Int)) rfl hf.ops.Tf (by decide) (nO hf.ops.Tf hf.xB rfl _) (λa aO=> ?_);refine aO.step (v:= .bool (decide ((j:Int)<(xs.length:Int)))) rfl hf.ops.O5 (by decide) (Qf hf.ops.O5 rfl rfl _) (λa aO=> ?_);by_cases dK:j<xs.length;rotate_left
    ·
     refine aO.cond (b:=false) (by show abT (decide ((j:Int)<(xs.length:Int)))=_;rw [decide_eq_false (by omega)]) ?_;simp only [By,if_false];refine wp_exit ?_;have apz:j=xs.length:=by omega
     subst apz;rw [ags,hd] at hdj;simp only [IN,acE] at hdj;obtain ⟨rfl,rfl⟩:=hdj;have hlen:=hR.len;have wu:=hR.size;have zu:i *E.size+(xs.length-i) *E.size<=nd.size:=by rw [<-acP,wu];exact hmul (by omega)
     have vI:i *E.size<=xs.length *E.size:=hmul (by omega);have PB:xs.length *E.size<=cp *E.size:=hmul alO;obtain ⟨zs,hzl,alQ⟩:=Ae (P:=P) (w:=W) (t:=t) (ty:=(o 40).type) (g:=g0) (off:=i *E.size) (n:=xs.length-i) (c:=cp-i) hf.xB oQ hz0 SI hz1 DH (by omega) zu;have hgl:g0<W.heap.size:=adY LO.2.1 hW.tr.size;obtain ⟨W3,hW3⟩: ∃W3,W3=W.setRow g0 (nd.toList.take (i *E.size)++zs++nd.toList.drop (i *E.size+zs.length)).toArray:=⟨_,rfl⟩
     rw [<-hW3] at alQ;have Cu:=hW.move hp (W2:=W3) (by rw [hW3];simp [acR]) (λb _ dG=>by rw [hW3];exact setRow_other _ _ _ _ (λe=>dG (by rw [Wt,e]))) (by rw [hW3];exact .setRow _ _ _) hnz;show Code.wp P (Code.seq _ _) _ a W;refine wp_seq (wp_region ?_);rw [show c8 (#[o 37,o 38,o 39,o 40]:Array Oper).size=[0,1,2,3] from rfl];refine aO.step (v:= .slice (some ⟨g0,0,none⟩) xs.length cp) rfl hf.ops.h37 (by decide) ((aZ hf.ops.h37 _).trans (by show acA (aa6 (σ 0)) W=_;rw [h0])) (λa aO=> ?_);refine aO.step (v:= .int .i64 (i:Int)) rfl hf.ops.h38 (by decide) ((aZ hf.ops.h38 _).trans (by show acA (aa6 (σ 5)) W=_;rw [h5])) (λa aO=> ?_);refine aO.step rfl hf.ops.h39 (by decide) (ou hf.ops.h39 hf.xB oQ vP rfl rfl (by omega) (by omega) _) (λa aO=> ?_);refine aO.ago (v:= .tuple #[]) rfl hf.ops.h40 (Ve hf.ops.h40 rfl alQ) ?_;refine wp_seq (wp_region ?_);rw [show c8 (#[o 41,o 42,o 43,o 44]:Array Oper).size=[0,1,2,3] from rfl];refine aO.step (v:= .slice (some ⟨g0,0,none⟩) xs.length cp) rfl hf.ops.h41 (by decide) ((aZ hf.ops.h41 _).trans (by show acA (aa6 (σ 0)) W3=_;rw [h0])) (λa aO=> ?_);refine aO.step (v:= .int .i64 (i:Int)) rfl hf.ops.h42 (by decide) ((aZ hf.ops.h42 _).trans (by show acA (aa6 (σ 5)) W3=_;rw [h5])) (λa aO=> ?_);refine aO.step (v:= .slice (some ⟨g0,0,none⟩) i cp) rfl hf.ops.h43 (by decide) (DK hf.ops.h43 hf.xB oQ vP rfl rfl (by omega) _) (λa aO=> ?_);refine aO.step (v:= .slice (some ⟨g0,0,none⟩) i cp) rfl hf.ops.h44 (by decide) (dy hf.ops.h44 _) (λa aO=> ?_);refine wp_ret ?_;refine NT hf.res aO (v:= .slice (some ⟨g0,0,none⟩) i cp) rfl ?_;rw [<-Qh];have r8:nd.toList.length=cp *E.size:=by rw [aaf,wu]
     refine ⟨_,rfl,_,φ',Cu,.inr ⟨by omega,by rw [hlen],_,by rw [hW3];exact wJ _ DH,?_,?_⟩⟩
     ·simp only [abH,AI,AS,aaG,r8,hzl];have:(xs.length-i) *E.size+i *E.size=xs.length *E.size:=by rw [<-acP];congr 1;omega
      omega
     ·rw [hlen,acQ,aai (by rw [AS,r8];omega),aey,Nat.min_self];exact hR.done
    ·refine aO.cond (b:=true) (by show abT (decide ((j:Int)<(xs.length:Int)))=_;rw [decide_eq_true (by omega)]) ?_;simp only [if_true];refine wp_skip ?_;obtain ⟨yk,sk',b,sk2,e1,e2,e3⟩:=U5 hd dK;rw [hdj] at e1;simp only [IN,acE] at e1;obtain ⟨rfl,rfl⟩:=e1;have aaD:=km.mono hW.tr.ph;obtain ⟨hl,gm⟩:=Qg aaD dK;obtain ⟨Mm,Np⟩: ∃Mm,Mm=(cells.drop (j *E.size)).take E.size:=⟨_,rfl⟩
     rw [<-Np] at hl gm;have r8:nd.toList.length=cp *E.size:=by rw [aaf,hR.size]
     have hj1:j *E.size+E.size<=xs.length *E.size:=by rw [<-aeB];exact hmul dK
     have PB:xs.length *E.size<=cp *E.size:=hmul alO;have uX:i *E.size+E.size<=j *E.size:=by rw [<-aeB];exact hmul Nn
     have ain:W.rangeAt g0 (j *E.size) Mm:=by
      intro q v hq;have hql:q<E.size:=by have:=(acJ.1 hq).1;omega
      rw [cell_of DH,<-adq];rw [Np,adK hql,<-hR.rest,acC,adK (by omega)] at hq;exact hq
     have jO: ∀u∈Mm,u.oneCell'=true:=λu hu=>km.CK u (by rw [Np] at hu;exact aeI (List.mem_of_mem_take hu));obtain ⟨ms,Ww⟩:=IF _ (agm dK);have S8:gh c.key φ' (.agg Mm.toArray) xs[j]:=IW gm Ww;have hsc:(Value.agg Mm.toArray).cells.toList=Mm:=by simp [ag4]
     refine wp_seq (wp_block ?_);refine wp_seq (wp_region ?_);rw [show c8 (#[o 16,o 17,o 18,o 19,o 20,o 21]:Array Oper).size=[0,1,2,3,4,5] from rfl];refine aO.step (v:= .slice (some ⟨g0,0,none⟩) xs.length cp) rfl hf.ops.Tg (by decide) ((aZ hf.ops.Tg _).trans (by show acA (aa6 (σ 0)) W=_;rw [h0])) (λa aO=> ?_);refine aO.step (v:= .int .i64 (j:Int)) rfl hf.ops.h17 (by decide) ((aZ hf.ops.h17 _).trans (by show acA (aa6 (σ 6)) W=_;rw [h6])) (λa aO=> ?_);refine aO.step rfl hf.ops.h18 (by decide) (NR hf.ops.h18 hf.xB oQ vP rfl rfl dK _) (λa aO=> ?_);refine aO.step rfl hf.ops.h19 (by decide) (Hp hf.ops.h19 (hT _ E oR) rP eR hl rfl ain) (λa aO=> ?_);refine aO.step rfl hf.ops.h20 (by decide) (ad8 hf.ops.h20 oQ hz0 _) (λa aO=> ?_);have agt:(W.alloc (.cells z.cells el)).heap[W.heap.size]? =some (.cells z.cells el (0,0)):=nK W _;refine aO.agq rfl hf.ops.h21 (Vj (v:= .agg Mm.toArray) (off:=0) hf.ops.h21 (hT _ E oR) rP rfl rfl (by rw [hsc,hl]) (by rw [hsc];exact jO) agt (by rw [SI];omega)) ?_;rw [hsc];obtain ⟨W2,WW⟩: ∃W2,W2=(W.alloc (.cells z.cells el)).setRow W.heap.size (z.cells.toList.take 0++Mm++z.cells.toList.drop (0+E.size)).toArray:=⟨_,rfl⟩
     rw [<-WW];have Nq:W2.heap.size=W.heap.size+1:=by rw [WW,setRow_size];simp
     have hold: ∀b,b<W.heap.size->W2.heap[b]? =W.heap[b]? :=λb hb=>by rw [WW,setRow_other _ _ _ _ (by omega)];exact (eG.alloc W z.cells el).Bg b hb
     have agu:W2.heap[W.heap.size]? =some (.cells Mm.toArray el (0,0)):=by
      rw [WW,wJ _ agt];congr 3;have:z.cells.toList.drop (0+E.size)=[]:=by rw [aew,agC];rw [aaf,SI];exact aaa _
      rw [this];simp
     have Th:Rest W W2:=by rw [WW];exact (Rest.alloc W z.cells el).trans (.setRow _ _ _)
     have hgl:g0<W.heap.size:=adY LO.2.1 hW.tr.size;have Cu:=hW.move hp (W2:=W2) (by omega) (λb hb _=>hold b hb) Th hnz;have aip: ∀b,ob=some b-> ¬((Z' b/\b<W.heap.size)\/W2.heap.size<=b):=by
      intro b hb;have:=alP b hb;subst this;rintro (h|h)
      ·exact hnz b hb h.1
      ·omega
     have agv: ∀{W:World} {b:Nat},W.heap[b]? =some (.cells Mm.toArray el (0,0))->W.rangeAt b 0 Mm:=by intro W b hb q v hq;rw [cell_of hb,aew];simpa using hq
     refine wp_seq (wp_region ?_);rw [show c8 (#[o 22,o 23,o 24,o 25]:Array Oper).size=[0,1,2,3] from rfl];refine aO.step (v:= .func (.func g) #[] lb) rfl hf.ops.h22 (by decide) ((aZ hf.ops.h22 _).trans (by show acA (aa6 (σ 1)) W2=_;rw [h1])) (λa aO=> ?_);refine aO.step rfl hf.ops.h23 (by decide) (Hp hf.ops.h23 (hT _ E oR) rP eR hl rfl (agv agu)) (λa aO=> ?_);refine aO.call rfl hf.ops.h24 (by decide) (Vk hf.ops.h24 rfl rfl _) (hp.call Cu.inv Cu.new Cu.qe S8 e2) ?_;rintro v W3 a ⟨rfl,φ3,t1,t2,t3⟩ aO;have aaF:W3.heap[g0]? =some (.cells nd el (0,0)):=(t1.heap g0 (aip g0 Wt) (by omega)).trans ((hold g0 hgl).trans DH);have alR:W3.heap[W.heap.size]? =some (.cells Mm.toArray el (0,0)):=(t1.heap _ (by rintro (h|h)<;>omega) (by omega)).trans agu;have hW3:B4 c ob Inv Z0 φ0 w sk2 (λb=>(Z' b/\b<W.heap.size)\/W2.heap.size<=b) φ3 W3:=⟨t3,λb hb=>Cu.new b (acM t1.size hb),Cu.sub,t2,Cu.tr.trans (t1.sup λb hb=> .inl (Cu.sub b hb)),λb off hb=>by rw [t1.free b off (aip b hb)];exact Cu.free b off hb⟩
     refine aO.step (v:= .bool (!b)) rfl hf.ops.h25 (by decide) (Va hf.ops.h25 rfl _) (λa aO=> ?_);cases b with
     |true=>
      refine aO.cond (b:=false) rfl ?_;simp only [By,if_false];refine wp_skip ?_;show Code.wp P (age (r 10) #[o 34,o 35,o 36] false) _ a W3;refine wp_region ?_;rw [show c8 (#[o 34,o 35,o 36]:Array Oper).size=[0,1,2] from rfl];refine aO.step (v:= .int .i64 (j:Int)) rfl hf.ops.h34 (by decide) ((aZ hf.ops.h34 _).trans (by show acA (aa6 (σ 6)) W3=_;rw [h6])) (λa aO=> ?_);refine aO.step (v:= .int .i64 ((j+1:Nat):Int)) rfl hf.ops.h35 (by decide) (kL (q:=1) hf.ops.h35 rfl rfl (by omega) _) (λa aO=> ?_);refine aO.step (v:= .int .i64 ((j+1:Nat):Int)) rfl hf.ops.h36 (by decide) (dy hf.ops.h36 _) (λa aO=> ?_);refine ⟨⟨_,aO,h0,h1,i,j+1,by omega,by omega,h5,rfl,nd,sk2,_,φ3,yj,aaF,by rw [e3];rfl,hW3,⟨hR.size,hR.done.mono t1.ph,hR.len,?_⟩⟩,?_⟩
      ·rw [show (j+1) *E.size=j *E.size+E.size from aeB _ _,<-af2,<-af2,hR.rest]
      ·have:a.tmps.getD 6 undef= .int .i64 ((j+1:Nat):Int):=by rw [aO.get 6];rfl
       rw [this];simp;omega
     |false=>
      refine aO.cond (b:=true) rfl ?_;simp only [if_true];refine wp_seq (wp_region ?_);rw [show c8 (#[o 26,o 27,o 28,o 29,o 30]:Array Oper).size=[0,1,2,3,4] from rfl];refine aO.step (v:= .slice (some ⟨g0,0,none⟩) xs.length cp) rfl hf.ops.h26 (by decide) ((aZ hf.ops.h26 _).trans (by show acA (aa6 (σ 0)) W3=_;rw [h0])) (λa aO=> ?_);refine aO.step (v:= .int .i64 (i:Int)) rfl hf.ops.h27 (by decide) ((aZ hf.ops.h27 _).trans (by show acA (aa6 (σ 5)) W3=_;rw [h5])) (λa aO=> ?_);refine aO.step rfl hf.ops.h28 (by decide) (Hp hf.ops.h28 (hT _ E oR) rP eR hl rfl (agv alR)) (λa aO=> ?_);refine aO.step rfl hf.ops.h29 (by decide) (NR hf.ops.h29 hf.xB oQ vP rfl rfl (by omega) _) (λa aO=> ?_);refine aO.agq rfl hf.ops.h30 (Vj (v:= .agg Mm.toArray) (off:=i *E.size) hf.ops.h30 (hT _ E oR) rP rfl rfl (by rw [hsc,hl]) (by rw [hsc];exact jO) aaF (by rw [hR.size];omega)) ?_;rw [hsc];obtain ⟨W4,hW4⟩: ∃W4,W4=W3.setRow g0 (nd.toList.take (i *E.size)++Mm++nd.toList.drop (i *E.size+E.size)).toArray:=⟨_,rfl⟩
      rw [<-hW4];have aiq:=hW3.move hp (W2:=W4) (by rw [hW4,setRow_size];exact aaa _) (λb _ dG=>by rw [hW4];exact setRow_other _ _ _ _ (λe=>dG (by rw [Wt,e]))) (by rw [hW4];exact .setRow _ _ _) aip;refine wp_region ?_;rw [show c8 (#[o 31,o 32,o 33]:Array Oper).size=[0,1,2] from rfl];refine aO.step (v:= .int .i64 (i:Int)) rfl hf.ops.h31 (by decide) ((aZ hf.ops.h31 _).trans (by show acA (aa6 (σ 5)) W4=_;rw [h5])) (λa aO=> ?_);refine aO.step (v:= .int .i64 ((i+1:Nat):Int)) rfl hf.ops.h32 (by decide) (kL (q:=1) hf.ops.h32 rfl rfl (by omega) _) (λa aO=> ?_);refine aO.step (v:= .int .i64 ((i+1:Nat):Int)) rfl hf.ops.h33 (by decide) (dy hf.ops.h33 _) (λa aO=> ?_);show Code.wp P (age (r 10) #[o 34,o 35,o 36] false) _ a W4;refine wp_region ?_;rw [show c8 (#[o 34,o 35,o 36]:Array Oper).size=[0,1,2] from rfl];refine aO.step (v:= .int .i64 (j:Int)) rfl hf.ops.h34 (by decide) ((aZ hf.ops.h34 _).trans (by show acA (aa6 (σ 6)) W4=_;rw [h6])) (λa aO=> ?_);refine aO.step (v:= .int .i64 ((j+1:Nat):Int)) rfl hf.ops.h35 (by decide) (kL (q:=1) hf.ops.h35 rfl rfl (by omega) _) (λa aO=> ?_);refine aO.step (v:= .int .i64 ((j+1:Nat):Int)) rfl hf.ops.h36 (by decide) (dy hf.ops.h36 _) (λa aO=> ?_);refine ⟨⟨_,aO,h0,h1,i+1,j+1,by omega,by omega,rfl,rfl,_,sk2,_,φ3,yj++[xs[j]],by rw [hW4];exact wJ _ aaF,by rw [e3];rfl,aiq,⟨?_,?_,by rw [AI,hR.len];rfl,?_⟩⟩,?_⟩
      ·simp only [abH,AI,AS,aaG,r8,hl];omega
      ·rw [show (i+1) *E.size=i *E.size+E.size from aeB _ _];have h9:(nd.toList.take (i *E.size)++Mm).length=i *E.size+E.size:=by rw [AI,AS,r8,hl];omega
       show bx c.key φ3 E.size (List.take (i *E.size+E.size) (nd.toList.take (i *E.size)++Mm++nd.toList.drop (i *E.size+E.size))) _;rw [<-h9,ag9];exact (hR.done.mono t1.ph).append ⟨Mm,[],by simp,hl,gm.mono t1.ph,rfl⟩
      ·show (List.take (xs.length *E.size) (nd.toList.take (i *E.size)++Mm++nd.toList.drop (i *E.size+E.size))).drop ((j+1) *E.size)=_;have h8:cells.drop ((j+1) *E.size)=(nd.toList.take (xs.length *E.size)).drop ((j+1) *E.size):=by rw [show (j+1) *E.size=j *E.size+E.size from aeB _ _,<-af2,<-af2,hR.rest]
       rw [h8];apply af7;intro q;have UZ:(j+1) *E.size=j *E.size+E.size:=aeB _ _;rw [acC,acC,aec,aec];split
       ·have h9:(nd.toList.take (i *E.size)++Mm).length=i *E.size+E.size:=by rw [AI,AS,r8,hl];omega
        rw [aaL (by rw [h9];omega),h9,acC];congr 1;omega
       ·rfl
      ·have:a.tmps.getD 6 undef= .int .i64 ((j+1:Nat):Int):=by rw [aO.get 6];rfl
       rw [this];simp;omega
 exact key _ (tm2 _ _ 40)
theorem aed (hf:aaE P f t ti tb fu fi el fn r o)(hfi:aaB P fi t ti el fni ri oi)(hT:lV P c.ti)(hE:c.tv el=some E)(eR:E.st=true)(fg:0<E.size):NH P c f el:=by
 refine ⟨?_⟩;intro S Inv step g lb hp v0 xs ys w Z0 φ0 s0 s' IF iN GQ hinv lN kb hd;obtain ⟨oR,rP⟩:=cc hE;obtain ⟨I,cells,hI,Y1,eS,km,mI⟩:=iN.row;have hI:c.ti el=some I:=hI;rw [oR] at hI;cases hI;have eS:w.ownsRow 0 el E.size v0 xs.length cells:=eS;have km:bx c.key φ0 E.size cells xs:=km;have r9: ∀b,v0.ownBlock=some b-> ∀off,φ0 b off=none:=by
  intro b hb off;cases h:φ0 b off with
  |none=>rfl
  |some u=>have:=((mI b hb).2.1 off u h).1;cases this
 rcases eS.2 with ⟨rfl,h0⟩|⟨gb,cap,dL,rfl,_,dx,PB,Hi,xz,R4⟩
 ·have hx:xs=[]:=List.eq_nil_of_length_eq_zero h0;subst hx;refine Ah hf.pos hf.name hf.body ((Qi (ob:=none) (g0:=0) (dL:= #[]) hf hfi hp hT hE eR fg (cp:=0) IF (λh=>absurd h (by simp)) (λb hb=>by cases hb) km (by simp) hinv lN kb hd).mono ?_);rintro e W ⟨v,rfl,Z,φ,hW,h1⟩;rcases h1 with ⟨rfl,rfl,_⟩|⟨h1,_⟩
  ·exact ⟨_,rfl,Z,φ,hW,⟨E,[],oR,rP,⟨by simp,.inl ⟨rfl,rfl⟩⟩,rfl,λbB hb=>by simp [ac1] at hb⟩,λ_ h=>h⟩
  ·simp at h1
 ·have dK:=bZ dx;have apB:xs.length<2^63:=by unfold Go.maxLen at Hi;omega
  refine Ah hf.pos hf.name hf.body ((Qi (ob:=some gb) (g0:=gb) hf hfi hp hT hE eR fg (cp:=cap) IF (λh=>⟨rfl,rfl,dx,R4,PB,xz⟩) (λb hb=>by cases hb;exact ⟨GQ gb rfl,dK,r9 gb rfl⟩) km apB hinv lN kb hd).mono ?_);rintro e W ⟨v,rfl,Z,φ,hW,h1⟩;rcases h1 with ⟨rfl,rfl,h2⟩|⟨h0,rfl,nd,h2,h3,h4⟩
  ·refine ⟨_,rfl,Z,φ,hW,⟨E,cells,oR,rP,⟨eS.1,.inr ⟨gb,cap,dL,rfl,acF _,(h2 gb rfl).trans dx,PB,Hi,xz,R4⟩⟩,km.mono hW.tr.ph,λbB hb=>⟨hb,λoff u hu=> ?_,λhc=>hc.elim⟩⟩,λ_ h=>h⟩;have hu:φ bB off=some u:=hu;rw [hW.free bB off hb] at hu;cases hu
  ·have hle:ys.length<=cap:=acM (aad hd) PB;refine ⟨_,rfl,Z,φ,hW,⟨E,nd.toList.take (ys.length *E.size),oR,rP,⟨?_,.inr ⟨gb,cap,nd,rfl,acF _,?_,hle,Hi,h3,rfl⟩⟩,h4,λbB hb=>⟨hb,λoff u hu=> ?_,λhc=>hc.elim⟩⟩,λ_ h=>h⟩
   ·exact h4.length
   ·have:nd=nd:=rfl;exact h2
   ·have hu:φ bB off=some u:=hu;rw [hW.free bB off hb] at hu;cases hu
end
end Dn
/-
  Reasoning about functions on typed values. Conditions: none.
-/
namespace Dn
open Go
section
variable {α R:Type}
theorem aP {l:List α}{k:Nat}(h:k<l.length)(K:α->Option R):ix l (k:Int) K=K l[k]:=by simp [ix,h]
theorem wh {l:List α}{i:Int}(h0:0<=i)(h:i.toNat<l.length)(K:α->Option R):ix l i K=K l[i.toNat]:=by simp [ix,h,h0]
@[simp] theorem GC {A : Type}(x : Option A) : bd x (λa => some a) = x := by cases x <;> rfl
end
def aM {A:Type}(x:Option A)(Q:A->Prop):Prop:= ∃a,x=some a/\Q a
section
variable {A B α σ ρ:Type}
theorem aM.mk {a:A}{Q:A->Prop}(h:Q a):aM (some a) Q:=⟨a,rfl,h⟩
theorem aM.of {x:Option A}{a:A}{Q:A->Prop}(e:x=some a)(h:Q a):aM x Q:=⟨a,e,h⟩
theorem aM.bd {x:Option A}{K:A->Option B}{P:A->Prop}{Q:B->Prop}(h:aM x P)(hk: ∀a,P a->aM (K a) Q):aM (bd x K) Q:=by obtain ⟨a,rfl,hp⟩:=h;exact hk a hp
theorem aM.imp {x:Option A}{P Q:A->Prop}(h:aM x P)(SU: ∀a,P a->Q a):aM x Q:=by obtain ⟨a,e,hp⟩:=h;exact ⟨a,e,SU a hp⟩
theorem aM.ix {l:List α}{k:Nat}{K:α->Option A}{Q:A->Prop}(h:k<l.length)(hk:aM (K l[k]) Q):aM (ix l (k:Int) K) Q:=by rw [aP h];exact hk
theorem aM.eq {x:Option A}{a:A}(h:aM x (· =a)):x=some a:=by obtain ⟨b,e,rfl⟩:=h;exact e
variable {body:σ->Option (Sum σ ρ)}
theorem aM.loop (I:σ->Prop) (μ:σ->Nat){Q:ρ->Prop}{s:σ}(hs:I s)(h: ∀s,I s->aM (body s) λx=>match x with| .inl s'=>I s'/\μ s'<μ s| .inr r=>Q r):aM (Loop body s) Q:=by
 refine aat I μ Q (λs hs=> ?_) hs;obtain ⟨x,e,hx⟩:=h s hs;cases x with
 |inl s'=>exact .inl ⟨s',e,hx⟩
 |inr r=>exact .inr ⟨r,e,hx⟩
theorem aM.count (S:Nat->σ)(n:Nat){Q:ρ->Prop}(P:Nat->Prop){s:σ}(e:s=S 0)(h0:P 0)(h: ∀k,k<n->P k->aM (body (S k)) λx=>match x with| .inl s'=>s'=S (k+1)/\P (k+1)| .inr r=>Q r)(he:P n->aM (body (S n)) λx=>match x with| .inl _=>False| .inr r=>Q r):aM (Loop body s) Q:=by
 subst e;refine aau S n Q P h0 (λk hk hp=> ?_) (λhp=> ?_)
 ·obtain ⟨x,e,hx⟩:=h k hk hp;cases x with
  |inl s'=>obtain ⟨rfl,hx⟩:=hx;exact .inl ⟨e,hx⟩
  |inr r=>exact .inr ⟨r,e,hx⟩
 ·obtain ⟨x,e,hx⟩:=he hp;cases x with
  |inl s'=>exact hx.elim
  |inr r=>exact ⟨r,e,hx⟩
end
theorem wrap64 {x:Int}(h1: -9223372036854775808<=x)(h2:x<=9223372036854775807):acV .i64 x=x:=ad0 h1 h2
end Dn
