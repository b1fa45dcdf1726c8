import Derived.Test.YtbkodohojpchjaaGreatDoorDnPOctI
/- Orders as bytes. Conditions: none. -/
set_option linter.unusedVariables false
set_option linter.unusedSimpArgs false
open List renaming length_append→bN,append_assoc→sh
open Option.some renaming injEq→AI
open Go Dn
namespace Dn.S
def GF (o:aa):List Int:=[o.Client,o.Seq,o.Kind,o.Version,o.Session,o.Span]
def pF (o:aa):List Int:=pR (GF o)++(yR o.Path++yR o.Value)
def Kg (o:aa):Prop:= ∀n∈GF o,i64 n
theorem Tc (o:aa):rh (pF o):=(Xm _).app ((MU _).app (MU _))
theorem Kh (o:aa):(pF o).length<=72+o.Path.length+o.Value.length:=by have h1:=E7 (GF o);have h2:=E6 o.Path;have h3:=E6 o.Value;have h4:(GF o).length=6:=rfl;unfold pF;simp only [bN];omega
theorem Xn (o:aa):(gj o).isSome=true:=by unfold gj;by_cases k1:o.Kind=1<;>by_cases k2:o.Kind=2<;>by_cases k5:o.Kind=5<;>by_cases k10:o.Kind=10<;>simp only [k1,k2,k5,k10,if_true,if_false,az,decide_true]<;>(repeat' split)<;>first|rfl|(simp only [az];(repeat' split)<;>first|rfl|(simp only [az];(repeat' split)<;>rfl))
theorem E8 (o:aa):bG (dC o) λb=>b=true->o.Path.length<=100/\o.Value.length<=1000:=by
 obtain ⟨u,hu⟩:=Option.isSome_iff_exists.1 (Xn o);unfold dC;have h1: ∃b,(if (0:Int)<=o.Client then if o.Client<=1000 then if (1:Int)<=o.Seq then some (decide (o.Seq<=1000000000)) else some false else some false else some false:Option Bool)=some b:=by (repeat' split)<;>exact ⟨_,rfl⟩
 obtain ⟨b,hb⟩:=h1;rw [hb,az,hu];cases b with
 |false=>exact .mk (by simp)
 |true=>
  simp only [if_true];by_cases c1:(0:Int)<=o.Kind;rotate_left
  ·simp only [c1,if_false,az];exact .mk (by simp)
  by_cases c2:o.Kind<=11;rotate_left
  ·simp only [c1,c2,if_true,if_false,az];exact .mk (by simp)
  by_cases c3:(o.Path.length:Int)<=100;rotate_left
  ·simp only [c1,c2,c3,if_true,if_false,az];exact .mk (by simp)
  by_cases c4:(o.Value.length:Int)<=1000;rotate_left
  ·simp only [c1,c2,c3,c4,if_true,if_false,az];exact .mk (by simp)
  simp only [c1,c2,c3,c4,if_true,az];exact .mk λ_=>by omega
theorem Td {b l:List Int}(hb:b.length<=2^43)(hl:l.length<=100)(h: ∀n∈l,i64 n):tt b l=some (b++pR l):=by
 unfold tt;refine bG.eq (bG.bd (P:=λw=>w=b++pR l) ?_ λw hw=> .mk hw);refine bG.count (λk=>(b++pR (l.take k),(k:Int))) l.length (λ_=>True) (by simp [pR]) trivial (λk hk _=> ?_) (λ_=> ?_)
 ·have h2:=E7 (l.take k);rw [List.length_take] at h2;unfold r9;simp only;rw [if_pos (by omega),b7 hk,Xi (by rw [bN];omega) (h _ (List.getElem_mem hk)),az,wrap64 (by omega) (by omega)];refine .mk ⟨?_,trivial⟩;rw [List.take_add_one,List.getElem?_eq_getElem hk,Xl,sh];simp [pR]
 ·unfold r9;simp only;rw [if_neg (by omega),List.take_length];exact .mk rfl
theorem Xo {b:List Int}(hb:b.length<=2^42){o:aa}(h:Kg o)(hp:o.Path.length<=100000)(hv:o.Value.length<=100000):wH b o=some (b++pF o):=by have h1:=E7 (GF o);have h2:=E6 o.Path;have h4:(GF o).length=6:=rfl;unfold wH;rw [show ([o.Client,o.Seq,o.Kind,o.Version,o.Session,o.Span]:List Int)=GF o from rfl,Td (by omega) (by rw [h4];omega) h,az,Kc (by rw [bN];omega) (by omega),az,Kc (by rw [bN,bN];omega) (by omega),az];unfold pF;simp only [sh]
def eH (b:List Int):Option (aa×List Int):=match oe 6 b with
 |some ([c,s,k,v,e,p],r)=>(match vq r 100 with
  |some (x,r)=>(match vq r 1000 with
   |some (y,r)=>some (⟨c,s,k,x,y,v,e,p⟩,r)
   |none=>none)
  |none=>none)
 |_=>none
theorem Xp {o:aa}(h:Kg o)(hp:o.Path.length<=100)(hv:o.Value.length<=1000)(r:List Int):eH (pF o++r)=some (o,r):=by unfold eH pF;have h1:=Tb (GF o) h (yR o.Path++yR o.Value++r);rw [show (GF o).length=6 from rfl] at h1;rw [sh,h1];simp only [GF];rw [sh,MX hp (by decide)];simp only;rw [MX hv (by decide)]
theorem Te {b:List Int}(hb:rh b){o:aa}{r:List Int}(h:eH b=some (o,r)):b=pF o++r/\Kg o/\rh r/\o.Path.length<=100/\o.Value.length<=1000:=by
 unfold eH at h;split at h;rotate_left
 ·cases h
 rename_i c s k v e p r1 h1;obtain ⟨e1,_,n1,b1,_⟩:=QZ 6 hb h1;split at h;rotate_left
 ·cases h
 rename_i x r2 h2;obtain ⟨e2,l2,b2⟩:=CA b1 h2;split at h;rotate_left
 ·cases h
 rename_i y r3 h3;obtain ⟨e3,l3,b3⟩:=CA b2 h3;simp only [AI,Prod.mk.injEq] at h;obtain ⟨rfl,rfl⟩:=h;refine ⟨?_,n1,b3,l2,l3⟩;rw [e1,e2,e3];unfold pF;simp only [sh];rfl
theorem xa {b:List Int}{e x:Int}(he:e≠0):pf b e x=some (x,b,e):=by unfold pf;rw [if_neg he]
theorem qm {b:List Int}{e m:Int}(he:e≠0):tu b e m=some ([],b,e):=by unfold tu;rw [if_neg he]
theorem oL {b:List Int}(hb:rh b)(hl:b.length<2^40)(x:Int):(∃n r,vo b=some (n,r)/\pf b 0 x=some (n,r,0))\/(vo b=none/\ ∃e,e≠0/\pf b 0 x=some (0,[],e)):=by
 unfold pf;rw [if_pos rfl,Lg hb hl];cases h:vo b with
 |none=>exact .inr ⟨rfl,_,G0 b,rfl⟩
 |some p=>exact .inl ⟨p.1,p.2,rfl,rfl⟩
theorem F7 {b:List Int}(hb:rh b)(hl:b.length<2^40){m:Nat}(hm:m<2^40):(∃s r,vq b m=some (s,r)/\tu b 0 (m:Int)=some (s,r,0))\/(vq b m=none/\ ∃e,e≠0/\tu b 0 (m:Int)=some ([],[],e)):=by
 unfold tu;rw [if_pos rfl,Ke hb hl hm];rcases Xj b m with ⟨s,r,h1,h2⟩|⟨h1,e,he,h2⟩
 ·exact .inl ⟨s,r,h1,by rw [h2]⟩
 ·exact .inr ⟨h1,e,he,by rw [h2]⟩
theorem Lh {b:List Int}(hb:rh b)(hl:b.length<2^40):bG (tw b) λr=>(∃o rest,eH b=some (o,rest)/\((dC o=some true/\r=(o,rest,0))\/(dC o=some false/\r.2.2≠0)))\/(eH b=none/\r.2.2≠0):=by
 unfold tw;have step: ∀{b:List Int} {n:Int} {r:List Int},rh b->b.length<2^40->vo b=some (n,r)->rh r/\r.length<2^40:=λhb hl h=>⟨(Kb hb h).2.2,by have:=Kf h;omega⟩
 have stepT: ∀{b:List Int} {m:Nat} {n:List UInt8} {r:List Int},rh b->b.length<2^40->vq b m=some (n,r)->rh r/\r.length<2^40:=λhb hl h=>⟨(CA hb h).2.2,by have:=Ta h;omega⟩
 rcases oL hb hl 0 with ⟨n0,r0,t0,g0⟩|⟨t0,e,he,g0⟩;rotate_left
 ·rw [g0];simp only [az,xa he,qm he,he,if_false];exact .mk (.inr ⟨by simp [eH,oe,t0],he⟩)
 rw [g0,az];obtain ⟨b0,l0⟩:=step hb hl t0;rcases oL b0 l0 0 with ⟨n1,r1,t1,g1⟩|⟨t1,e,he,g1⟩;rotate_left
 ·rw [g1];simp only [az,xa he,qm he,he,if_false];exact .mk (.inr ⟨by simp [eH,oe,t0,t1],he⟩)
 rw [g1,az];obtain ⟨b1,l1⟩:=step b0 l0 t1;rcases oL b1 l1 0 with ⟨n2,r2,t2,g2⟩|⟨t2,e,he,g2⟩;rotate_left
 ·rw [g2];simp only [az,xa he,qm he,he,if_false];exact .mk (.inr ⟨by simp [eH,oe,t0,t1,t2],he⟩)
 rw [g2,az];obtain ⟨b2,l2⟩:=step b1 l1 t2;rcases oL b2 l2 0 with ⟨n3,r3,t3,g3⟩|⟨t3,e,he,g3⟩;rotate_left
 ·rw [g3];simp only [az,xa he,qm he,he,if_false];exact .mk (.inr ⟨by simp [eH,oe,t0,t1,t2,t3],he⟩)
 rw [g3,az];obtain ⟨b3,l3⟩:=step b2 l2 t3;rcases oL b3 l3 0 with ⟨n4,r4,t4,g4⟩|⟨t4,e,he,g4⟩;rotate_left
 ·rw [g4];simp only [az,xa he,qm he,he,if_false];exact .mk (.inr ⟨by simp [eH,oe,t0,t1,t2,t3,t4],he⟩)
 rw [g4,az];obtain ⟨b4,l4⟩:=step b3 l3 t4;rcases oL b4 l4 0 with ⟨n5,r5,t5,g5⟩|⟨t5,e,he,g5⟩;rotate_left
 ·rw [g5];simp only [az,qm he,he,if_false];exact .mk (.inr ⟨by simp [eH,oe,t0,t1,t2,t3,t4,t5],he⟩)
 rw [g5,az];obtain ⟨b5,l5⟩:=step b4 l4 t5;have abF:oe 6 b=some ([n0,n1,n2,n3,n4,n5],r5):=by simp [oe,t0,t1,t2,t3,t4,t5]
 rcases F7 b5 l5 (m:=100) (by decide) with ⟨x,r6,t6,g6⟩|⟨t6,e,he,g6⟩;rotate_left
 ·rw [show tu r5 0 100=_ from g6];simp only [az,qm he,he,if_false];exact .mk (.inr ⟨by simp [eH,abF,t6],he⟩)
 rw [show tu r5 0 100=_ from g6,az];obtain ⟨b6,l6⟩:=stepT b5 l5 t6;rcases F7 b6 l6 (m:=1000) (by decide) with ⟨y,r7,t7,g7⟩|⟨t7,e,he,g7⟩;rotate_left
 ·rw [show tu r6 0 1000=_ from g7];simp only [az,he,if_false];exact .mk (.inr ⟨by simp [eH,abF,t6,t7],he⟩)
 rw [show tu r6 0 1000=_ from g7,az];simp only [if_true];obtain ⟨m,em,_⟩:=E8 (⟨n0,n1,n2,x,y,n3,n4,n5⟩:aa);rw [em,az];have ho:eH b=some (⟨n0,n1,n2,x,y,n3,n4,n5⟩,r7):=by simp [eH,abF,t6,t7]
 cases m with
 |true=>exact .mk (.inl ⟨_,_,ho,.inl ⟨em,rfl⟩⟩)
 |false=>exact .mk (.inl ⟨_,_,ho,.inr ⟨em,by decide⟩⟩)
end Dn.S
