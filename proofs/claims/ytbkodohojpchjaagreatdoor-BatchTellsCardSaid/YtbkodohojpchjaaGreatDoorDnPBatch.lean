import Derived.Test.YtbkodohojpchjaaGreatDoorDnPOctI
/-
  Orders as bytes. Conditions: none.
-/
set_option linter.unusedVariables false
set_option linter.unusedSimpArgs false
open List renaming length_append→aQ,append_assoc→sh
open Option.some renaming injEq→AI
open Go Dn
namespace Dn.S
def uB (o:ab):List Int:=[o.Client,o.Seq,o.Kind,o.Version,o.Session,o.Span]
def jR (o:ab):List Int:=iQ (uB o)++(xn o.Path++xn o.Value)
def Df (o:ab):Prop:= ∀n∈uB o,i64 n
theorem LA (o:ab):ju (jR o):=(OS _).app ((FM _).app (FM _))
theorem Dg (o:ab):(jR o).length<=72+o.Path.length+o.Value.length:=by have h1:=pD (uB o);have h2:=uf o.Path;have h3:=uf o.Value;have h4:(uB o).length=6:=rfl;unfold jR;simp only [aQ];omega
theorem OT (o:ab):(aK o).isSome=true:=by unfold aK;by_cases k1:o.Kind=1<;>by_cases k2:o.Kind=2<;>by_cases k5:o.Kind=5<;>by_cases k10:o.Kind=10<;>simp only [k1,k2,k5,k10,if_true,if_false,aL,decide_true]<;>(repeat' split)<;>first|rfl|(simp only [aL];(repeat' split)<;>first|rfl|(simp only [aL];(repeat' split)<;>rfl))
theorem yu (o:ab):cm (cE o) λb=>b=true->o.Path.length<=100/\o.Value.length<=1000:=by
 obtain ⟨u,hu⟩:=Option.isSome_iff_exists.1 (OT o);unfold cE;have h1: ∃b,(if (0:Int)<=o.Client then if o.Client<=1000 then if (1:Int)<=o.Seq then some (decide (o.Seq<=1000000000)) else some false else some false else some false:Option Bool)=some b:=by (repeat' split)<;>exact ⟨_,rfl⟩
 obtain ⟨b,hb⟩:=h1;rw [hb,aL,hu];cases b with
 |false=>exact .mk (by simp)
 |true=>
  simp only [if_true];by_cases c1:(0:Int)<=o.Kind;rotate_left
  ·simp only [c1,if_false,aL];exact .mk (by simp)
  by_cases c2:o.Kind<=11;rotate_left
  ·simp only [c1,c2,if_true,if_false,aL];exact .mk (by simp)
  by_cases c3:(o.Path.length:Int)<=100;rotate_left
  ·simp only [c1,c2,c3,if_true,if_false,aL];exact .mk (by simp)
  by_cases c4:(o.Value.length:Int)<=1000;rotate_left
  ·simp only [c1,c2,c3,c4,if_true,if_false,aL];exact .mk (by simp)
  simp only [c1,c2,c3,c4,if_true,aL];exact .mk λ_=>by omega
theorem LB {b l:List Int}(hb:b.length<=2^43)(hl:l.length<=100)(h: ∀n∈l,i64 n):mw b l=some (b++iQ l):=by
 unfold mw;refine cm.eq (cm.bd (P:=λw=>w=b++iQ l) ?_ λw hw=> .mk hw);refine cm.count (λk=>(b++iQ (l.take k),(k:Int))) l.length (λ_=>True) (by simp [iQ]) trivial (λk hk _=> ?_) (λ_=> ?_)
 ·have h2:=pD (l.take k);rw [List.length_take] at h2;unfold lD;simp only;rw [if_pos (by omega),dQ hk,OQ (by rw [aQ];omega) (h _ (List.getElem_mem hk)),aL,wrap64 (by omega) (by omega)];refine .mk ⟨?_,trivial⟩;rw [List.take_add_one,List.getElem?_eq_getElem hk,FO,sh];simp [iQ]
 ·unfold lD;simp only;rw [if_neg (by omega),List.take_length];exact .mk rfl
theorem OU {b:List Int}(hb:b.length<=2^42){o:ab}(h:Df o)(hp:o.Path.length<=100000)(hv:o.Value.length<=100000):o8 b o=some (b++jR o):=by have h1:=pD (uB o);have h2:=uf o.Path;have h4:(uB o).length=6:=rfl;unfold o8;rw [show ([o.Client,o.Seq,o.Kind,o.Version,o.Session,o.Span]:List Int)=uB o from rfl,LB (by omega) (by rw [h4];omega) h,aL,C9 (by rw [aQ];omega) (by omega),aL,C9 (by rw [aQ,aQ];omega) (by omega),aL];unfold jR;simp only [sh]
def cC (b:List Int):Option (ab×List Int):=match iD 6 b with
 |some ([c,s,k,v,e,p],r)=>(match qX r 100 with
  |some (x,r)=>(match qX r 1000 with
   |some (y,r)=>some (⟨c,s,k,x,y,v,e,p⟩,r)
   |none=>none)
  |none=>none)
 |_=>none
theorem Dh {b:List Int}(hb:ju b){o:ab}{r:List Int}(h:cC b=some (o,r)):b=jR o++r/\Df o/\ju r/\o.Path.length<=100/\o.Value.length<=1000:=by
 unfold cC at h;split at h;rotate_left
 ·cases h
 rename_i c s k v e p r1 h1;obtain ⟨e1,_,n1,b1,_⟩:=zn 6 hb h1;split at h;rotate_left
 ·cases h
 rename_i x r2 h2;obtain ⟨e2,l2,b2⟩:=qF b1 h2;split at h;rotate_left
 ·cases h
 rename_i y r3 h3;obtain ⟨e3,l3,b3⟩:=qF b2 h3;simp only [AI,Prod.mk.injEq] at h;obtain ⟨rfl,rfl⟩:=h;refine ⟨?_,n1,b3,l2,l3⟩;rw [e1,e2,e3];unfold jR;simp only [sh];rfl
theorem pE {b:List Int}{e x:Int}(he:e≠0):jF b e x=some (x,b,e):=by unfold jF;rw [if_neg he]
theorem kA {b:List Int}{e m:Int}(he:e≠0):my b e m=some ([],b,e):=by unfold my;rw [if_neg he]
theorem jr {b:List Int}(hb:ju b)(hl:b.length<2^40)(x:Int):(∃n r,lg b=some (n,r)/\jF b 0 x=some (n,r,0))\/(lg b=none/\ ∃e,e≠0/\jF b 0 x=some (0,[],e)):=by
 unfold jF;rw [if_pos rfl,Ei hb hl];cases h:lg b with
 |none=>exact .inr ⟨rfl,_,lL b,rfl⟩
 |some p=>exact .inl ⟨p.1,p.2,rfl,rfl⟩
theorem zo {b:List Int}(hb:ju b)(hl:b.length<2^40){m:Nat}(hm:m<2^40):(∃s r,qX b m=some (s,r)/\my b 0 (m:Int)=some (s,r,0))\/(qX b m=none/\ ∃e,e≠0/\my b 0 (m:Int)=some ([],[],e)):=by
 unfold my;rw [if_pos rfl,Dc hb hl hm];rcases yt b m with ⟨s,r,h1,h2⟩|⟨h1,e,he,h2⟩
 ·exact .inl ⟨s,r,h1,by rw [h2]⟩
 ·exact .inr ⟨h1,e,he,by rw [h2]⟩
theorem Ek {b:List Int}(hb:ju b)(hl:b.length<2^40):cm (mz b) λr=>(∃o rest,cC b=some (o,rest)/\((cE o=some true/\r=(o,rest,0))\/(cE o=some false/\r.2.2≠0)))\/(cC b=none/\r.2.2≠0):=by
 unfold mz;have step: ∀{b:List Int} {n:Int} {r:List Int},ju b->b.length<2^40->lg b=some (n,r)->ju r/\r.length<2^40:=λhb hl h=>⟨(vE hb h).2.2,by have:=vH h;omega⟩
 have stepT: ∀{b:List Int} {m:Nat} {n:List UInt8} {r:List Int},ju b->b.length<2^40->qX b m=some (n,r)->ju r/\r.length<2^40:=λhb hl h=>⟨(qF hb h).2.2,by have:=De h;omega⟩
 rcases jr hb hl 0 with ⟨n0,r0,t0,g0⟩|⟨t0,e,he,g0⟩;rotate_left
 ·rw [g0];simp only [aL,pE he,kA he,he,if_false];exact .mk (.inr ⟨by simp [cC,iD,t0],he⟩)
 rw [g0,aL];obtain ⟨b0,l0⟩:=step hb hl t0;rcases jr b0 l0 0 with ⟨n1,r1,t1,g1⟩|⟨t1,e,he,g1⟩;rotate_left
 ·rw [g1];simp only [aL,pE he,kA he,he,if_false];exact .mk (.inr ⟨by simp [cC,iD,t0,t1],he⟩)
 rw [g1,aL];obtain ⟨b1,l1⟩:=step b0 l0 t1;rcases jr b1 l1 0 with ⟨n2,r2,t2,g2⟩|⟨t2,e,he,g2⟩;rotate_left
 ·rw [g2];simp only [aL,pE he,kA he,he,if_false];exact .mk (.inr ⟨by simp [cC,iD,t0,t1,t2],he⟩)
 rw [g2,aL];obtain ⟨b2,l2⟩:=step b1 l1 t2;rcases jr b2 l2 0 with ⟨n3,r3,t3,g3⟩|⟨t3,e,he,g3⟩;rotate_left
 ·rw [g3];simp only [aL,pE he,kA he,he,if_false];exact .mk (.inr ⟨by simp [cC,iD,t0,t1,t2,t3],he⟩)
 rw [g3,aL];obtain ⟨b3,l3⟩:=step b2 l2 t3;rcases jr b3 l3 0 with ⟨n4,r4,t4,g4⟩|⟨t4,e,he,g4⟩;rotate_left
 ·rw [g4];simp only [aL,pE he,kA he,he,if_false];exact .mk (.inr ⟨by simp [cC,iD,t0,t1,t2,t3,t4],he⟩)
 rw [g4,aL];obtain ⟨b4,l4⟩:=step b3 l3 t4;rcases jr b4 l4 0 with ⟨n5,r5,t5,g5⟩|⟨t5,e,he,g5⟩;rotate_left
 ·rw [g5];simp only [aL,kA he,he,if_false];exact .mk (.inr ⟨by simp [cC,iD,t0,t1,t2,t3,t4,t5],he⟩)
 rw [g5,aL];obtain ⟨b5,l5⟩:=step b4 l4 t5;have SR:iD 6 b=some ([n0,n1,n2,n3,n4,n5],r5):=by simp [iD,t0,t1,t2,t3,t4,t5]
 rcases zo b5 l5 (m:=100) (by decide) with ⟨x,r6,t6,g6⟩|⟨t6,e,he,g6⟩;rotate_left
 ·rw [show my r5 0 100=_ from g6];simp only [aL,kA he,he,if_false];exact .mk (.inr ⟨by simp [cC,SR,t6],he⟩)
 rw [show my r5 0 100=_ from g6,aL];obtain ⟨b6,l6⟩:=stepT b5 l5 t6;rcases zo b6 l6 (m:=1000) (by decide) with ⟨y,r7,t7,g7⟩|⟨t7,e,he,g7⟩;rotate_left
 ·rw [show my r6 0 1000=_ from g7];simp only [aL,he,if_false];exact .mk (.inr ⟨by simp [cC,SR,t6,t7],he⟩)
 rw [show my r6 0 1000=_ from g7,aL];simp only [if_true];obtain ⟨m,em,_⟩:=yu (⟨n0,n1,n2,x,y,n3,n4,n5⟩:ab);rw [em,aL];have ho:cC b=some (⟨n0,n1,n2,x,y,n3,n4,n5⟩,r7):=by simp [cC,SR,t6,t7]
 cases m with
 |true=>exact .mk (.inl ⟨_,_,ho,.inl ⟨em,rfl⟩⟩)
 |false=>exact .mk (.inl ⟨_,_,ho,.inr ⟨em,by decide⟩⟩)
end Dn.S
