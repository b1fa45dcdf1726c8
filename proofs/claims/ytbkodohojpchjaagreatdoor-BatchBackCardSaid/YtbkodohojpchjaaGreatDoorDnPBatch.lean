import Derived.Test.YtbkodohojpchjaaGreatDoorDnPOctI
/- Orders as bytes. Conditions: none. -/
set_option linter.unusedVariables false
set_option linter.unusedSimpArgs false
open List renaming length_append→bB,append_assoc→sh
open Option.some renaming injEq→AI
open Go Dn
namespace Dn.S
def KI (o:ab):List Int:=[o.Client,o.Seq,o.Kind,o.Version,o.Session,o.Span]
def pk (o:ab):List Int:=pP (KI o)++(zi o.Path++zi o.Value)
def LX (o:ab):Prop:= ∀n∈KI o,i64 n
theorem S9 (o:ab):qO (pk o):=(WL _).app ((Nu _).app (Nu _))
theorem KJ (o:ab):(pk o).length<=72+o.Path.length+o.Value.length:=by have h1:=FU (KI o);have h2:=FR o.Path;have h3:=FR o.Value;have h4:(KI o).length=6:=rfl;unfold pk;simp only [bB];omega
theorem WM (o:ab):(fT o).isSome=true:=by unfold fT;by_cases k1:o.Kind=1<;>by_cases k2:o.Kind=2<;>by_cases k5:o.Kind=5<;>by_cases k10:o.Kind=10<;>simp only [k1,k2,k5,k10,if_true,if_false,cU,decide_true]<;>(repeat' split)<;>first|rfl|(simp only [cU];(repeat' split)<;>first|rfl|(simp only [cU];(repeat' split)<;>rfl))
theorem FV (o:ab):dQ (fP o) λb=>b=true->o.Path.length<=100/\o.Value.length<=1000:=by
 obtain ⟨u,hu⟩:=Option.isSome_iff_exists.1 (WM o);unfold fP;have h1: ∃b,(if (0:Int)<=o.Client then if o.Client<=1000 then if (1:Int)<=o.Seq then some (decide (o.Seq<=1000000000)) else some false else some false else some false:Option Bool)=some b:=by (repeat' split)<;>exact ⟨_,rfl⟩
 obtain ⟨b,hb⟩:=h1;rw [hb,cU,hu];cases b with
 |false=>exact .mk (by simp)
 |true=>
  simp only [if_true];by_cases c1:(0:Int)<=o.Kind;rotate_left
  ·simp only [c1,if_false,cU];exact .mk (by simp)
  by_cases c2:o.Kind<=11;rotate_left
  ·simp only [c1,c2,if_true,if_false,cU];exact .mk (by simp)
  by_cases c3:(o.Path.length:Int)<=100;rotate_left
  ·simp only [c1,c2,c3,if_true,if_false,cU];exact .mk (by simp)
  by_cases c4:(o.Value.length:Int)<=1000;rotate_left
  ·simp only [c1,c2,c3,c4,if_true,if_false,cU];exact .mk (by simp)
  simp only [c1,c2,c3,c4,if_true,cU];exact .mk λ_=>by omega
theorem Ta {b l:List Int}(hb:b.length<=2^43)(hl:l.length<=100)(h: ∀n∈l,i64 n):nP b l=some (b++pP l):=by
 unfold nP;refine dQ.eq (dQ.bd (P:=λw=>w=b++pP l) ?_ λw hw=> .mk hw);refine dQ.count (λk=>(b++pP (l.take k),(k:Int))) l.length (λ_=>True) (by simp [pP]) trivial (λk hk _=> ?_) (λ_=> ?_)
 ·have h2:=FU (l.take k);rw [List.length_take] at h2;unfold mf;simp only;rw [if_pos (by omega),v7 hk,WH (by rw [bB];omega) (h _ (List.getElem_mem hk)),cU,wrap64 (by omega) (by omega)];refine .mk ⟨?_,trivial⟩;rw [List.take_add_one,List.getElem?_eq_getElem hk,WK,sh];simp [pP]
 ·unfold mf;simp only;rw [if_neg (by omega),List.take_length];exact .mk rfl
theorem WN {b:List Int}(hb:b.length<=2^42){o:ab}(h:LX o)(hp:o.Path.length<=100000)(hv:o.Value.length<=100000):p9 b o=some (b++pk o):=by have h1:=FU (KI o);have h2:=FR o.Path;have h4:(KI o).length=6:=rfl;unfold p9;rw [show ([o.Client,o.Seq,o.Kind,o.Version,o.Session,o.Span]:List Int)=KI o from rfl,Ta (by omega) (by rw [h4];omega) h,cU,KF (by rw [bB];omega) (by omega),cU,KF (by rw [bB,bB];omega) (by omega),cU];unfold pk;simp only [sh]
def ei (b:List Int):Option (ab×List Int):=match nX 6 b with
 |some ([c,s,k,v,e,p],r)=>(match vr r 100 with
  |some (x,r)=>(match vr r 1000 with
   |some (y,r)=>some (⟨c,s,k,x,y,v,e,p⟩,r)
   |none=>none)
  |none=>none)
 |_=>none
theorem WO {o:ab}(h:LX o)(hp:o.Path.length<=100)(hv:o.Value.length<=1000)(r:List Int):ei (pk o++r)=some (o,r):=by unfold ei pk;have h1:=S8 (KI o) h (zi o.Path++zi o.Value++r);rw [show (KI o).length=6 from rfl] at h1;rw [sh,h1];simp only [KI];rw [sh,Ny hp (by decide)];simp only;rw [Ny hv (by decide)]
theorem KK {b:List Int}(hb:qO b){o:ab}{r:List Int}(h:ei b=some (o,r)):b=pk o++r/\LX o/\qO r/\o.Path.length<=100/\o.Value.length<=1000:=by
 unfold ei at h;split at h;rotate_left
 ·cases h
 rename_i c s k v e p r1 h1;obtain ⟨e1,_,n1,b1,_⟩:=QV 6 hb h1;split at h;rotate_left
 ·cases h
 rename_i x r2 h2;obtain ⟨e2,l2,b2⟩:=CQ b1 h2;split at h;rotate_left
 ·cases h
 rename_i y r3 h3;obtain ⟨e3,l3,b3⟩:=CQ b2 h3;simp only [AI,Prod.mk.injEq] at h;obtain ⟨rfl,rfl⟩:=h;refine ⟨?_,n1,b3,l2,l3⟩;rw [e1,e2,e3];unfold pk;simp only [sh];rfl
theorem xb {b:List Int}{e x:Int}(he:e≠0):nh b e x=some (x,b,e):=by unfold nh;rw [if_neg he]
theorem ql {b:List Int}{e m:Int}(he:e≠0):qX b e m=some ([],b,e):=by unfold qX;rw [if_neg he]
theorem ov {b:List Int}(hb:qO b)(hl:b.length<2^40)(x:Int):(∃n r,vq b=some (n,r)/\nh b 0 x=some (n,r,0))\/(vq b=none/\ ∃e,e≠0/\nh b 0 x=some (0,[],e)):=by
 unfold nh;rw [if_pos rfl,LW hb hl];cases h:vq b with
 |none=>exact .inr ⟨rfl,_,HX b,rfl⟩
 |some p=>exact .inl ⟨p.1,p.2,rfl,rfl⟩
theorem GU {b:List Int}(hb:qO b)(hl:b.length<2^40){m:Nat}(hm:m<2^40):(∃s r,vr b m=some (s,r)/\qX b 0 (m:Int)=some (s,r,0))\/(vr b m=none/\ ∃e,e≠0/\qX b 0 (m:Int)=some ([],[],e)):=by
 unfold qX;rw [if_pos rfl,KG hb hl hm];rcases WI b m with ⟨s,r,h1,h2⟩|⟨h1,e,he,h2⟩
 ·exact .inl ⟨s,r,h1,by rw [h2]⟩
 ·exact .inr ⟨h1,e,he,by rw [h2]⟩
theorem LY {b:List Int}(hb:qO b)(hl:b.length<2^40):dQ (nQ b) λr=>(∃o rest,ei b=some (o,rest)/\((fP o=some true/\r=(o,rest,0))\/(fP o=some false/\r.2.2≠0)))\/(ei b=none/\r.2.2≠0):=by
 unfold nQ;have step: ∀{b:List Int} {n:Int} {r:List Int},qO b->b.length<2^40->vq b=some (n,r)->qO r/\r.length<2^40:=λhb hl h=>⟨(KE hb h).2.2,by have:=KH h;omega⟩
 have stepT: ∀{b:List Int} {m:Nat} {n:List UInt8} {r:List Int},qO b->b.length<2^40->vr b m=some (n,r)->qO r/\r.length<2^40:=λhb hl h=>⟨(CQ hb h).2.2,by have:=S7 h;omega⟩
 rcases ov hb hl 0 with ⟨n0,r0,t0,g0⟩|⟨t0,e,he,g0⟩;rotate_left
 ·rw [g0];simp only [cU,xb he,ql he,he,if_false];exact .mk (.inr ⟨by simp [ei,nX,t0],he⟩)
 rw [g0,cU];obtain ⟨b0,l0⟩:=step hb hl t0;rcases ov b0 l0 0 with ⟨n1,r1,t1,g1⟩|⟨t1,e,he,g1⟩;rotate_left
 ·rw [g1];simp only [cU,xb he,ql he,he,if_false];exact .mk (.inr ⟨by simp [ei,nX,t0,t1],he⟩)
 rw [g1,cU];obtain ⟨b1,l1⟩:=step b0 l0 t1;rcases ov b1 l1 0 with ⟨n2,r2,t2,g2⟩|⟨t2,e,he,g2⟩;rotate_left
 ·rw [g2];simp only [cU,xb he,ql he,he,if_false];exact .mk (.inr ⟨by simp [ei,nX,t0,t1,t2],he⟩)
 rw [g2,cU];obtain ⟨b2,l2⟩:=step b1 l1 t2;rcases ov b2 l2 0 with ⟨n3,r3,t3,g3⟩|⟨t3,e,he,g3⟩;rotate_left
 ·rw [g3];simp only [cU,xb he,ql he,he,if_false];exact .mk (.inr ⟨by simp [ei,nX,t0,t1,t2,t3],he⟩)
 rw [g3,cU];obtain ⟨b3,l3⟩:=step b2 l2 t3;rcases ov b3 l3 0 with ⟨n4,r4,t4,g4⟩|⟨t4,e,he,g4⟩;rotate_left
 ·rw [g4];simp only [cU,xb he,ql he,he,if_false];exact .mk (.inr ⟨by simp [ei,nX,t0,t1,t2,t3,t4],he⟩)
 rw [g4,cU];obtain ⟨b4,l4⟩:=step b3 l3 t4;rcases ov b4 l4 0 with ⟨n5,r5,t5,g5⟩|⟨t5,e,he,g5⟩;rotate_left
 ·rw [g5];simp only [cU,ql he,he,if_false];exact .mk (.inr ⟨by simp [ei,nX,t0,t1,t2,t3,t4,t5],he⟩)
 rw [g5,cU];obtain ⟨b5,l5⟩:=step b4 l4 t5;have aaO:nX 6 b=some ([n0,n1,n2,n3,n4,n5],r5):=by simp [nX,t0,t1,t2,t3,t4,t5]
 rcases GU b5 l5 (m:=100) (by decide) with ⟨x,r6,t6,g6⟩|⟨t6,e,he,g6⟩;rotate_left
 ·rw [show qX r5 0 100=_ from g6];simp only [cU,ql he,he,if_false];exact .mk (.inr ⟨by simp [ei,aaO,t6],he⟩)
 rw [show qX r5 0 100=_ from g6,cU];obtain ⟨b6,l6⟩:=stepT b5 l5 t6;rcases GU b6 l6 (m:=1000) (by decide) with ⟨y,r7,t7,g7⟩|⟨t7,e,he,g7⟩;rotate_left
 ·rw [show qX r6 0 1000=_ from g7];simp only [cU,he,if_false];exact .mk (.inr ⟨by simp [ei,aaO,t6,t7],he⟩)
 rw [show qX r6 0 1000=_ from g7,cU];simp only [if_true];obtain ⟨m,em,_⟩:=FV (⟨n0,n1,n2,x,y,n3,n4,n5⟩:ab);rw [em,cU];have ho:ei b=some (⟨n0,n1,n2,x,y,n3,n4,n5⟩,r7):=by simp [ei,aaO,t6,t7]
 cases m with
 |true=>exact .mk (.inl ⟨_,_,ho,.inl ⟨em,rfl⟩⟩)
 |false=>exact .mk (.inl ⟨_,_,ho,.inr ⟨em,by decide⟩⟩)
end Dn.S
