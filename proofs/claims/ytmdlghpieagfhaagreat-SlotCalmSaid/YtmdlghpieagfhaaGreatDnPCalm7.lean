import Derived.Test.YtmdlghpieagfhaaGreatDnPCalm6
/- Calm: all good ones learn. Conditions: none. -/
set_option linter.unusedVariables false
set_option linter.unusedSimpArgs false
open List renaming getElem?_eq_some_iff→cV,getElem?_eq_getElem→sh,getElem_mem→AI
open Option.some renaming inj→AT
open Int renaming toNat_natCast→BY
open Nat renaming lt_irrefl→IT
open Go Dn
namespace Dn.S
section
variable {F T:Nat}{s:ae}{bad:List Bool}{want:List (List UInt8)}{g:Gh}{c:aj}{k:Nat}{v:Int}{X:Option (List UInt8)}{h:Nat->Nat}
def TL (F T:Nat)(s:ae)(bad:List Bool)(want:List (List UInt8))(g:Gh)(v:Int)(at_:Nat)(c:aj)(k:Nat):Prop:= ∃g' X,g.le g'/\ng F T s bad want g' c k/\LS s bad v X (λ_=>at_) c/\at_<=c.aC.length/\(0<at_->Due s v X c)
theorem ajy (hF:s.F=F)(hT:s.T=T)(hs:cC s)(hn:(bad.length:Int)=kz s)(Dq:bad.length<=30)(hws: ∀x∈want,x.length<=6000)(hw:want.length=bad.length)(hG:2 *s.F+s.T+1<=((su bad).length:Int))(hv:0<v/\v<=100000)(hl:bad[(dG s v).toNat]? =some false)(U5:0<=dG s v)(hk:k<=500000){at_:Nat}(hTL:TL F T s bad want g v at_ c k): aK (n7 v ((at_:Int),c)) λx=>match x with| .inl p=>p.1=((at_+1:Nat):Int)/\at_<400/\TL F T s bad want g v (at_+1) p.2 (k+bad.length+1)| .inr c'=>c'=c/\c.aC.length=at_:=by
 obtain ⟨g1,X,hg1,hh,hL,HN,an7⟩:=hTL;have hp:=hh.inv.lI;have hB:=hh.inv.bY;unfold n7;dsimp only;by_cases cJ:(at_:Int)<(c.aC.length:Int);rotate_left
 ·rw [if_neg cJ];exact .mk ⟨rfl,by omega⟩
 have afA:at_<c.aC.length:=by omega
 have hm:=hh.inv.short _ (AI afA);have hmg:=hh.say.lI _ (AI afA);rw [if_pos cJ,bB afA,if_pos (by rw [hB];omega),hB];generalize Wq:c.aC[at_]=m at hm hmg;have hmo:c.aC[at_]? =some m:=by rw [sh afA,Wq]
 refine aK.bd (P:=λc'=> ∃g',g1.le g'/\ng F T s bad want g' c' (k+bad.length)/\LS s bad v X (λj=>if j<bad.length then at_+1 else at_) c'/\c'.aC[at_]? =some m) ?_ ?_
 ·refine US (λi c'=> ∃g',g1.le g'/\ng F T s bad want g' c' (k+i)/\LS s bad v X (λj=>if j<i then at_+1 else at_) c'/\c'.aC[at_]? =some m) bad ?_ ?_ ⟨g1,.refl g1,hh,hL.heard λj _=>by simp,hmo⟩
  ·rintro i c' hb ⟨g',q1,q2,q3,q4⟩;have TW:=(cV.1 hb).1;obtain ⟨x,e1,e2,e3⟩:=Yu hn hG hv q2 (by omega) q3 hb (m:=m) (by simp only [IT,if_false];exact q4);obtain ⟨r,er,hr⟩:=Ym hF hT hn q2 (by omega) hb hm (hmg.mono q1);rw [e1] at er;obtain rfl:=AT er;rw [e1,au];obtain ⟨g2,t1,t2⟩:=hr;refine .mk ⟨g2,q1.trans t1,t2,e2.heard λj Dr=> ?_,?_⟩
   ·simp only [IT,if_false];by_cases vF:j=i
    ·rw [if_pos vF,if_pos (by omega)]
    ·rw [if_neg vF];by_cases hj:j<i
     ·rw [if_pos hj,if_pos (by omega)]
     ·rw [if_neg hj,if_neg (by omega)]
   ·rw [e3,List.getElem?_append_left (cV.1 q4).1];exact q4
  ·rintro i c' hb ⟨g',q1,q2,q3,q4⟩;refine ⟨g',q1,⟨q2.inv.mono,q2.say⟩,q3.heard λj Dr=> ?_,q4⟩;have:j≠i:=λe=>by rw [e,hb] at Dr;cases Dr
   by_cases hj:j<i
   ·rw [if_pos hj,if_pos (by omega)]
   ·rw [if_neg hj,if_neg (by omega)]
 ·rintro c1 ⟨g2,q1,q2,q3,q4⟩;have hS:=q2.inv.S;obtain ⟨i,hi⟩: ∃i:Nat,dG s v=(i:Int):=⟨(dG s v).toNat,by omega⟩
  rw [hi,BY] at hl;rw [hS,dI hs,au,hi];obtain ⟨X',x,e0,e1,e2,e3,e4⟩:=ajx hws hw hv q2 (by omega) q3 hl hi.symm;obtain ⟨r,er,hr⟩:=ajv hw q2 (by omega) hl;rw [e1] at er;obtain rfl:=AT er;rw [e1,au,wrap64 (by omega) (by omega)];obtain ⟨g3,t1,t2⟩:=hr;refine .mk ⟨by simp,by omega,g3,X',(hg1.trans q1).trans t1,t2,e2.heard λj Dr=> ?_,?_,λ_=>e4⟩
  ·rw [if_pos (cV.1 Dr).1]
  ·show at_+1<=(kl c1 i x.1 x.2).aC.length;rw [e3,List.length_append];have:=(cV.1 q4).1;omega
theorem Yv (hG:2 *s.F+2 *s.T+1<=((su bad).length:Int))(hl:bad[(dG s v).toNat]? =some false)(U5:0<=dG s v)(hlen:c.N.length=bad.length)(hL:LS s bad v X (λ_=>c.aC.length) c)(an7:Due s v X c){j:Nat}{n:ao}(hb:bad[j]? =some false)(hn:c.N[j]? =some n):n.L.bw=true:=by
 have Hh: ∀j:Nat,bad[j]? =some false-> ∃n,c.N[j]? =some n/\LN s bad v X c.aC c.aC j n:=by
  intro j hb;have hj:j<c.N.length:=by rw [hlen];exact (cV.1 hb).1
  refine ⟨c.N[j],sh hj,?_⟩;have:=hL.nodes j _ hb (sh hj);rw [List.take_length] at this;exact this
 obtain ⟨i,hi⟩: ∃i:Nat,dG s v=(i:Int):=⟨(dG s v).toNat,by omega⟩
 rw [hi,BY] at hl;obtain ⟨nl,Fo,hLl⟩:=Hh i hl;have an6:(su bad).length<=nl.dq.length:=by
  have:(su bad).length<=(nl.dq.map λr=>r.By.toNat).length:=by refine o8 (Hg bad) λq hq=> ?_;obtain ⟨m,hm,km,Du⟩:=hL.acQ q (NE.1 hq);obtain ⟨r,hr,hrb⟩:=hLl.Bg hi.symm m hm km;exact List.mem_map.2 ⟨r,hr,by rw [hrb,Du];rfl⟩
  rwa [List.length_map] at this
 have hX:X.isSome=true:=an7 i nl hi.symm Fo (by omega);obtain ⟨x,hx⟩:=Option.isSome_iff_exists.1 hX;obtain ⟨m1,hm1,km1⟩:=((hL.afz i nl hi.symm Fo).2 x hx).2;have Gc: ∀q:Nat,bad[q]? =some false-> ∃m∈c.aC,m.Kind=2/\m.bM.By=(q:Int):=by intro q hq;obtain ⟨nq,_,hLq⟩:=Hh q hq;exact hLq.Sj ⟨m1,hm1,km1⟩
 have asM: ∀q:Nat,bad[q]? =some false-> ∃m∈c.aC,m.Kind=3/\m.cN=(q:Int):=by intro q hq;obtain ⟨nq,_,hLq⟩:=Hh q hq;exact hLq.sL (hLq.Sl Gc)
 obtain ⟨n',V0,hLj⟩:=Hh j hb;rw [hn] at V0;obtain rfl:=AT V0;exact hLj.don asM
structure EL (F T:Nat) (s:ae) (bad:List Bool) (c0:aj) (v:Int) (i:Nat) (c:aj):Prop where
 done: ∀(j:Nat) n0,j<i->bad[j]? =some false->c0.N[j]? =some n0->c.N[j]? =some (dV n0 v).1/\EP (iL n0.A v).2.1∈c.aC
 todo: ∀j:Nat,i<=j->c.N[j]? =c0.N[j]?
 len:c.aC.length<=i
 lI: ∀m∈c.aC,m.Kind=4/\CF s m.R/\m.R.fS=v
def VX (bad:List Bool)(c:aj)(k:Nat):Prop:= ∀(j:Nat) n,bad[j]? =some false->c.N[j]? =some n->n.et<=n.A.View/\n.A.View<=(k:Int)
theorem yZ {a:af}{v:Int}(h:a.View<v)(hv:v<=100000):iL a v=(⟨a.S,a.Me,v,a.Has,a.At,a.Value,a.Proof,⟨[]⟩⟩,⟨a.Me,v,a.Has,a.At,a.Value,a.Proof⟩,true):=by unfold iL;rw [if_neg (by omega)]
theorem ajz {n:ao}{i:Int}(hI:dP s i n k)(hn:kz s<=100)(hv:n.A.View<v/\v<=100000):CF s ⟨n.A.Me,v,n.A.Has,n.A.At,n.A.Value,n.A.Proof⟩:=by
 have hl:=hI.acc.jB;have h0:=hl.v0;have hS:=hI.zM;refine ⟨hI.acc.me0,by have:=hI.acc.me1;rw [hS] at this;exact this,by simp only;omega,hv.2,hl.Ba,λhh=> ?_,?_,?_⟩
 ·obtain ⟨q1,q2,q3⟩:=hl.has hh;exact ⟨q1,by simp only;omega,q3⟩
 ·rcases hl.proof with hp|⟨hp,hle⟩
  ·exact .inl hp
  ·rw [hS] at hp;refine .inr ⟨hp,?_⟩;have Nj:=(b7 s).1 hp.sz;have Lj:=hp.len;have h0:0<n.A.Proof.length:=by omega
   show (mB n.A.Proof).1<v;rw [KE h0];have:=hle _ (AI h0);omega
 ·have:=hI.acc.RX.proof.len;exact this
end
end Dn.S
