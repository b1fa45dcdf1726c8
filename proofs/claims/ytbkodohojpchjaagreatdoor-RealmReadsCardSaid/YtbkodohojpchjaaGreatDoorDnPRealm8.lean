import Derived.Test.YtbkodohojpchjaaGreatDoorDnPRealm7
/-
  Realms: what was set is what is got. Conditions: none.
-/
open Go Dn
set_option linter.unusedVariables false
set_option linter.unusedSimpArgs false
namespace Dn.S
theorem Cy {o:av} (hu:ia o=some o) (h1:0≤o.Client∧o.Client≤1000) (h2:1≤o.Seq∧o.Seq≤1000000000) (h3:0≤o.Kind∧o.Kind≤11) (h4:o.Path.length≤100) (h5:o.Value.length≤1000):Ac o=true:=by
 unfold Ac nb
 rw [if_pos h1.1,if_pos h1.2,if_pos h2.1,aC,decide_eq_true h2.2,if_pos rfl,if_pos h3.1,if_pos h3.2,if_pos (by omega),if_pos (by omega),hu,aC,aC]
 simp
theorem s9 {L:List af} {o:av} (hm:Ac o=true) (h:((j7 L o.Client).2=false∧L.length<50)∨((j7 L o.Client).2=true∧(j7 L o.Client).1.Seq<o.Seq)):hU L o=(kj o 0,false):=by
 unfold hU
 rw [hm,if_neg (by decide)]
 rcases h with ⟨h1,h2⟩|⟨h1,h2⟩
 ·rw [h1,if_neg (by decide),if_neg (by omega)]
 ·rw [h1,if_pos rfl,if_neg (by omega),if_neg (by omega)]
theorem Bz {r:ak} (h:fM r) {o:av} (hk:hU r.Seen o=(kj o 0,false)):
 (cm r o).2.1=(fE r o).x∧(cm r o).1.Shelf=(fE r o).r.Shelf∧j7 (cm r o).1.Seen o.Client=((fE r o).x,true)∧(fE r o).x.Seq=o.Seq∧fE r o=O8 ⟨r,o,kj o 0,[]⟩:=by
 have hw:fE r o=O8 ⟨r,o,kj o 0,[]⟩:=by unfold fE;rw [hk]
 have lr:=uF h o
 have hd:Cv ⟨r,o,kj o 0,[]⟩ (fE r o):=by rw [hw];exact Wu (w:=⟨r,o,kj o 0,[]⟩) h.toeD
 have hxc:(fE r o).x.Client=o.Client:=hd.eE
 have hxs:(fE r o).x.Seq=o.Seq:=hd.seq
 have e0:(hU r.Seen o).2=false:=by rw [hk]
 have e1:(cm r o).1.Seen=Bx r.Seen o.Client (fE r o).x:=by unfold cm;rw [e0,if_neg (by decide)]
 have e2:(cm r o).2.1=(fE r o).x:=by unfold cm;rw [e0,if_neg (by decide)]
 have e3:(cm r o).1.Shelf=(fE r o).r.Shelf:=by unfold cm;rw [e0,if_neg (by decide)]
 have tf:(fE r o).x∈(cm r o).1.Seen:=by rw [e1];exact (WD h.inc hxc _).2 (.inl rfl)
 have CV:=Zs lr.inc tf
 rw [hxc] at CV
 exact ⟨e2,e3,CV,hxs,hw⟩
theorem Zt (w:ai):(HM w).x.E=(gZ w.r.Shelf.L w.o.Path w.o.Value w.o.Version).2∧(HM w).r.Shelf.L=(gZ w.r.Shelf.L w.o.Path w.o.Value w.o.Version).1∧
 ((gZ w.r.Shelf.L w.o.Path w.o.Value w.o.Version).2=0→(HM w).x.Version=(dI (gZ w.r.Shelf.L w.o.Path w.o.Value w.o.Version).1 w.o.Path).1.Version):=by
 have ho:(qa 2 (lj w (gZ w.r.Shelf.L w.o.Path w.o.Value w.o.Version))).o=w.o:=by unfold qa;split<;>rfl
 have hx:=aaC (lj w (gZ w.r.Shelf.L w.o.Path w.o.Value w.o.Version)) 2
 have hr:=aaB (lj w (gZ w.r.Shelf.L w.o.Path w.o.Value w.o.Version)) 2
 have hE:(qa 2 (lj w (gZ w.r.Shelf.L w.o.Path w.o.Value w.o.Version))).x.E=(gZ w.r.Shelf.L w.o.Path w.o.Value w.o.Version).2:=by rw [hx];rfl
 unfold HM MO
 by_cases he:(gZ w.r.Shelf.L w.o.Path w.o.Value w.o.Version).2=0
 ·rw [if_pos (by rw [hE];exact he)]
  refine ⟨hE,by dsimp only;rw [hr];rfl,fun _=> ?_⟩
  dsimp only
  rw [hr,ho];rfl
 ·rw [if_neg (by rw [hE];exact he)]
  exact ⟨hE,by rw [hr];rfl,fun h=>absurd h he⟩
theorem Pd (w:ai):(vR w).x.E=(p0 w.r.Shelf.L w.o.Path w.o.Version).2∧(vR w).r.Shelf.L=(p0 w.r.Shelf.L w.o.Path w.o.Version).1:=by
 unfold vR
 exact ⟨by rw [aaC];rfl,by rw [aaB];rfl⟩
theorem Zu {r:ak} (h:fM r) {f:Int} (hf:0≤f∧f≤1000) (hl:(j7 r.Seen f).2=false) (hs:r.Seen.length<50) {p v:List UInt8} (hp:p.length≤100) (hv:v.length≤1000):
 ∃x1 x2 x3 x4:af,∃s:ak,∃ev,n3 r [⟨f,1,3,p,v,-1,0,0⟩,⟨f,2,2,p,[],0,0,0⟩,⟨f,3,4,p,[],-1,0,0⟩,⟨f,4,2,p,[],0,0,0⟩]=(s,[x1,x2,x3,x4],ev)∧
  x1.E=(gZ r.Shelf.L p v (-1)).2∧((gZ r.Shelf.L p v (-1)).2=0→x1.Version=(dI (gZ r.Shelf.L p v (-1)).1 p).1.Version)∧
  x2.E=(dI (gZ r.Shelf.L p v (-1)).1 p).2∧x2.Value=(dI (gZ r.Shelf.L p v (-1)).1 p).1.Value∧x2.Version=(dI (gZ r.Shelf.L p v (-1)).1 p).1.Version∧
  x3.E=(p0 (gZ r.Shelf.L p v (-1)).1 p (-1)).2∧
  x4.E=(dI (p0 (gZ r.Shelf.L p v (-1)).1 p (-1)).1 p).2∧x4.Value=(dI (p0 (gZ r.Shelf.L p v (-1)).1 p (-1)).1 p).1.Value∧
  s.Shelf.L=(p0 (gZ r.Shelf.L p v (-1)).1 p (-1)).1:=by
 have m1:Ac ⟨f,1,3,p,v,-1,0,0⟩=true:=Cy rfl hf ⟨by simp,by simp⟩ ⟨by simp,by simp⟩ hp hv
 have k1:=s9 (L:=r.Seen) m1 (.inl ⟨hl,hs⟩)
 obtain ⟨a1,b1,c1,d1,w1⟩:=Bz h k1
 have ok1:=uF h ⟨f,1,3,p,v,-1,0,0⟩
 obtain ⟨q1,q2,q3⟩:=Zt ⟨r,⟨f,1,3,p,v,-1,0,0⟩,kj ⟨f,1,3,p,v,-1,0,0⟩ 0,[]⟩
 have w1:fE r ⟨f,1,3,p,v,-1,0,0⟩=HM ⟨r,⟨f,1,3,p,v,-1,0,0⟩,kj ⟨f,1,3,p,v,-1,0,0⟩ 0,[]⟩:=w1.trans rfl
 rw [w1] at a1 b1 c1 d1
 have L1:(cm r ⟨f,1,3,p,v,-1,0,0⟩).1.Shelf.L=(gZ r.Shelf.L p v (-1)).1:=by rw [b1];exact q2
 generalize GY:(cm r ⟨f,1,3,p,v,-1,0,0⟩).1=r1 at *
 have m2:Ac ⟨f,2,2,p,[],0,0,0⟩=true:=Cy rfl hf ⟨by simp,by simp⟩ ⟨by simp,by simp⟩ hp (by simp)
 have k2:=s9 (L:=r1.Seen) m2 (.inr (by dsimp only at c1⊢;rw [c1];exact ⟨rfl,by rw [d1];simp⟩))
 obtain ⟨a2,b2,c2,d2,w2⟩:=Bz ok1 k2
 have ok2:=uF ok1 ⟨f,2,2,p,[],0,0,0⟩
 have w2:fE r1 ⟨f,2,2,p,[],0,0,0⟩=Wk ⟨r1,⟨f,2,2,p,[],0,0,0⟩,kj ⟨f,2,2,p,[],0,0,0⟩ 0,[]⟩:=w2.trans rfl
 rw [w2] at a2 b2 c2 d2
 have L2:(cm r1 ⟨f,2,2,p,[],0,0,0⟩).1.Shelf.L=(gZ r.Shelf.L p v (-1)).1:=by rw [b2];exact L1
 generalize Tq:(cm r1 ⟨f,2,2,p,[],0,0,0⟩).1=r2 at *
 have m3:Ac ⟨f,3,4,p,[],-1,0,0⟩=true:=Cy rfl hf ⟨by simp,by simp⟩ ⟨by simp,by simp⟩ hp (by simp)
 have k3:=s9 (L:=r2.Seen) m3 (.inr (by dsimp only at c2⊢;rw [c2];exact ⟨rfl,by rw [d2];simp⟩))
 obtain ⟨a3,b3,c3,d3,w3⟩:=Bz ok2 k3
 have ok3:=uF ok2 ⟨f,3,4,p,[],-1,0,0⟩
 obtain ⟨t1,t2⟩:=Pd ⟨r2,⟨f,3,4,p,[],-1,0,0⟩,kj ⟨f,3,4,p,[],-1,0,0⟩ 0,[]⟩
 have w3:fE r2 ⟨f,3,4,p,[],-1,0,0⟩=vR ⟨r2,⟨f,3,4,p,[],-1,0,0⟩,kj ⟨f,3,4,p,[],-1,0,0⟩ 0,[]⟩:=w3.trans rfl
 rw [w3] at a3 b3 c3 d3
 have L3:(cm r2 ⟨f,3,4,p,[],-1,0,0⟩).1.Shelf.L=(p0 (gZ r.Shelf.L p v (-1)).1 p (-1)).1:=by rw [b3,t2];dsimp only;rw [L2]
 generalize hr3:(cm r2 ⟨f,3,4,p,[],-1,0,0⟩).1=r3 at *
 have m4:Ac ⟨f,4,2,p,[],0,0,0⟩=true:=Cy rfl hf ⟨by simp,by simp⟩ ⟨by simp,by simp⟩ hp (by simp)
 have k4:=s9 (L:=r3.Seen) m4 (.inr (by dsimp only at c3⊢;rw [c3];exact ⟨rfl,by rw [d3];simp⟩))
 obtain ⟨a4,b4,c4,d4,w4⟩:=Bz ok3 k4
 have w4:fE r3 ⟨f,4,2,p,[],0,0,0⟩=Wk ⟨r3,⟨f,4,2,p,[],0,0,0⟩,kj ⟨f,4,2,p,[],0,0,0⟩ 0,[]⟩:=w4.trans rfl
 rw [w4] at a4 b4
 have L4:(cm r3 ⟨f,4,2,p,[],0,0,0⟩).1.Shelf.L=(p0 (gZ r.Shelf.L p v (-1)).1 p (-1)).1:=by rw [b4];exact L3
 refine ⟨(cm r ⟨f,1,3,p,v,-1,0,0⟩).2.1,(cm r1 ⟨f,2,2,p,[],0,0,0⟩).2.1,(cm r2 ⟨f,3,4,p,[],-1,0,0⟩).2.1,(cm r3 ⟨f,4,2,p,[],0,0,0⟩).2.1,(cm r3 ⟨f,4,2,p,[],0,0,0⟩).1,?_⟩
 refine ⟨((([]++(cm r ⟨f,1,3,p,v,-1,0,0⟩).2.2)++(cm r1 ⟨f,2,2,p,[],0,0,0⟩).2.2)++(cm r2 ⟨f,3,4,p,[],-1,0,0⟩).2.2)++(cm r3 ⟨f,4,2,p,[],0,0,0⟩).2.2,?_,?_,?_,?_,?_,?_,?_,?_,?_,L4⟩
 ·unfold n3
  simp only [List.foldl_cons,List.foldl_nil,xL,GY,Tq,hr3,List.nil_append,List.cons_append]
 ·rw [a1];exact q1
 ·intro he;rw [a1];exact q3 he
 ·rw [a2];show (dI r1.Shelf.L p).2=_;rw [L1]
 ·rw [a2];show (dI r1.Shelf.L p).1.Value=_;rw [L1]
 ·rw [a2];show (dI r1.Shelf.L p).1.Version=_;rw [L1]
 ·rw [a3,t1];show (p0 r2.Shelf.L p (-1)).2=_;rw [L2]
 ·rw [a4];show (dI r3.Shelf.L p).2=_;rw [L3]
 ·rw [a4];show (dI r3.Shelf.L p).1.Value=_;rw [L3]
theorem Zv {r:ak} (h:fM r):bq (Loop (lD r) (0,0)) fun f=>(0≤f∧f≤(r.Seen.length:Int))∧ ∀y∈r.Seen,y.Client≠f:=by
 have hf:=h.few
 refine bq.loop (fun st:Int×Int=> ∃k:Nat,st.2=(k:Int)∧k≤r.Seen.length∧0≤st.1∧st.1≤(k:Int)∧(∀j (hj:j<r.Seen.length),j<k→r.Seen[j].Client≠st.1)∧(∀j (hj:j<r.Seen.length),k≤j→st.1≤r.Seen[j].Client))
  (fun st=>r.Seen.length-st.2.toNat) ⟨0,rfl,Nat.zero_le _,by decide,by decide,fun j hj h0=>by omega,fun j hj _=>(h.seen _ (List.getElem_mem hj)).1⟩ ?_
 rintro ⟨f,i⟩ ⟨k,hk,hkl,h1,h2,h3,h4⟩
 dsimp only at hk h1 h2 h3 h4
 subst hk
 unfold lD
 dsimp only
 by_cases da:k<r.Seen.length
 ·rw [if_pos (by omega),bx da]
  have Pz: ∀j (hj:j<r.Seen.length),k<j→r.Seen[k].Client<r.Seen[j].Client:=fun j hj hkj=>h.inc.lt hj hkj
  by_cases he:r.Seen[k].Client=f
  ·rw [if_pos he,aC,wrap64 (by omega) (by omega),wrap64 (by omega) (by omega)]
   refine .mk ⟨⟨k+1,by dsimp only;omega,da,by dsimp only;omega,by dsimp only;omega,fun j hj Rk=> ?_,fun j hj Rk=> ?_⟩,by dsimp only;omega⟩
   ·dsimp only
    by_cases acL:j=k
    ·subst acL;omega
    ·have:=h.inc.lt da (show j<k by omega)
     have:r.Seen[j].Client<r.Seen[k].Client:=this
     omega
   ·dsimp only
    have:=Pz j hj (by omega)
    omega
  ·rw [if_neg he,aC,wrap64 (by omega) (by omega)]
   refine .mk ⟨⟨k+1,by dsimp only;omega,da,h1,by dsimp only;omega,fun j hj Rk=> ?_,fun j hj Rk=> ?_⟩,by dsimp only;omega⟩
   ·dsimp only
    by_cases acL:j=k
    ·subst acL;exact he
    ·exact h3 j hj (by omega)
   ·dsimp only
    exact h4 j hj (by omega)
 ·rw [if_neg (by omega)]
  refine .mk ⟨⟨h1,by omega⟩,fun y hy=> ?_⟩
  obtain ⟨j,hj,rfl⟩:=List.mem_iff_getElem.1 hy
  exact h3 j hj (by omega)
theorem GS (r:ak) (o:av) (v:List UInt8):nE r o v=some true:=by
 unfold nE
 obtain ⟨b1,e1,h1⟩:=WC r
 obtain ⟨b3,e3,h3⟩:=O9 [o]
 rw [e1,aC]
 cases b1 with
 |false=>rw [if_pos (show (!false)=true from rfl),aC,if_pos rfl,jL];rfl
 |true=>
 obtain ⟨hS,_,hN⟩:=h1 rfl
 rw [if_neg (show¬(!true)=true by decide)]
 by_cases h45:(45:Int)<(r.Seen.length:Int)
 ·rw [if_pos h45,aC,if_pos rfl,jL];rfl
 rw [if_neg h45,e3,aC]
 cases b3 with
 |false=>rw [if_pos (show (!false)=true from rfl),aC,if_pos rfl,jL];rfl
 |true=>
 rw [if_neg (show¬(!true)=true by decide)]
 by_cases hv:(1000:Int)<(v.length:Int)
 ·rw [if_pos hv,aC,if_pos rfl,jL];rfl
 rw [if_neg hv,Pc hS,aC]
 obtain ⟨b4,e4,h4⟩:=MZ hS
 rw [e4,aC,aC]
 cases b4 with
 |false=>rw [if_pos (show (!false)=true from rfl),jL];rfl
 |true=>
 have lr:=h4.1 rfl
 rw [if_neg (show¬(!true)=true by decide)]
 obtain ⟨f,ef,Hb,xS⟩:=Zv lr
 rw [ef,aC,WH lr _ (by simp),aC]
 by_cases hp:(100:Int)<(o.Path.length:Int)
 ·have hlen:(n3 r [⟨f,1,3,o.Path,v,-1,0,0⟩,⟨f,2,2,o.Path,[],0,0,0⟩,⟨f,3,4,o.Path,[],-1,0,0⟩,⟨f,4,2,o.Path,[],0,0,0⟩]).2.1.length=4:=rfl
  rw [hlen,decide_eq_true (show ((4:Nat):Int)=4 from rfl),if_neg (by decide),decide_eq_true hp,aC,if_pos rfl,jL];rfl
 have hl:(j7 r.Seen f).2=false:=by rw [WE xS]
 obtain ⟨x1,x2,x3,x4,s,ev,ag8,g1,g2,g3,g4,g5,g6,g7,g8,g9⟩:=Zu lr (f:=f) ⟨Hb.1,by omega⟩ hl (by omega) (p:=o.Path) (v:=v) (by omega) (by omega)
 rw [ag8]
 have Ny:=lr.shelf
 generalize r.Shelf.L=L at *
 generalize o.Path=p at *
 dsimp only
 have i0: ∀K:af→Option Bool,ix [x1,x2,x3,x4] 0 K=K x1:=fun _=>rfl
 have i1: ∀K:af→Option Bool,ix [x1,x2,x3,x4] 1 K=K x2:=fun _=>rfl
 have i2: ∀K:af→Option Bool,ix [x1,x2,x3,x4] 2 K=K x3:=fun _=>rfl
 have i3: ∀K:af→Option Bool,ix [x1,x2,x3,x4] 3 K=K x4:=fun _=>rfl
 rw [show ([x1,x2,x3,x4].length:Int)=4 from rfl,decide_eq_true (rfl:(4:Int)=4),if_neg (by decide),decide_eq_false hp,aC,if_neg (by decide),i0]
 rw [ag2] at g1 g2
 have acM:s6 L p (-1)=(cg L p).2:=by unfold s6;rw [if_neg (fun hh=>hh.2.1 rfl)]
 have hfe:=V4 L p
 have hvl: ¬(1000:Int)<(v.length:Int):=hv
 by_cases hE:Bs L p v (-1)=0
 ·
  obtain ⟨u1,u2,u3⟩:=Y9 Ny hE
  have okL:=DZ Ny p v (-1)
  generalize (gZ L p v (-1)).1=M at *
  rw [if_neg (by rw [g1,hE];decide),i0,if_neg (by rw [g1,hE];decide),i1,if_pos (by rw [g3,u1]),i1,if_pos (by rw [g4,u1]),i1,i0,decide_eq_true (show x2.Version=x1.Version by rw [g5,g2 hE]),aC,jL,aC,if_pos rfl,if_pos rfl,i2]
  rw [ag3] at g6
  by_cases hD:DL M p (-1)=0
  ·have hx4:x4.E=6:=by rw [g7];exact Za okL hD
   rw [if_neg (by rw [g6,hD];decide),i3,if_pos hx4,i2,if_pos (by rw [g6];exact hD)];rfl
  ·have hM:(p0 M p (-1)).1=M:=by unfold p0;rw [if_neg hD]
   rw [hM] at g7 g8
   rw [if_pos (by rw [g6,decide_eq_false hD];rfl),i2,if_neg (by rw [g6];exact hD),i3,if_pos (by rw [g7,u1]),i3,decide_eq_true (show x4.Value=v by rw [g8,u1])];rfl
 ·have hM:(gZ L p v (-1)).1=L:=by unfold gZ;rw [if_neg hE]
  rw [hM] at g2 g3 g4 g5 g6 g7 g8 g9
  by_cases h9:Bs L p v (-1)=9
  ·have WI:(cg L p).2=0∧(1000000000:Int)≤(dI L p).1.Version:=by
    unfold Bs at h9
    rw [acM] at h9
    by_cases hz:(cg L p).2=0
    ·rw [if_pos hz,if_neg hvl] at h9
     split at h9
     ·rename_i hh;exact ⟨hz,hh⟩
     ·cases h9
    ·rw [if_neg hz] at h9
     rcases V6 L p with h|h|h
     ·exact absurd h hz
     ·omega
     ·omega
   obtain ⟨hi,ha,hb,hc⟩:=get_at WI.1
   have hmx:=(Ny.wu _ (List.getElem_mem hi))
   rw [if_pos (by rw [g1];exact h9),jL,aC,if_pos rfl,i1,if_pos (by rw [g3,hfe];exact WI.1),i1,decide_eq_true (show x2.Version=1000000000 by rw [g5];have:=WI.2;rw [ha] at this⊢;omega)];rfl
  ·have cT:(cg L p).2≠0∧Bs L p v (-1)=(cg L p).2:=by
    unfold Bs at hE h9⊢
    rw [acM] at hE h9⊢
    by_cases hz:(cg L p).2=0
    ·rw [if_pos hz,if_neg hvl] at hE h9
     split at h9
     ·exact absurd rfl h9
     ·rename_i hh;rw [if_neg hh] at hE;exact absurd rfl hE
    ·rw [if_neg hz];exact ⟨hz,rfl⟩
   have E0:DL L p (-1)≠0:=by
    unfold DL
    split
    ·decide
    ·rw [acM,if_neg cT.1];exact cT.1
   have hM2:(p0 L p (-1)).1=L:=by unfold p0;rw [if_neg E0]
   rw [hM2] at g7 g8 g9
   rw [if_neg (by rw [g1];exact h9),i0,if_pos (by rw [g1,decide_eq_false hE];rfl),jL,aC,if_pos rfl,i1,i0,if_pos (by rw [g3,g1,hfe,cT.2]),i3,i0,if_pos (by rw [g7,g1,hfe,cT.2]),g9,decide_eq_true rfl];rfl
end Dn.S
