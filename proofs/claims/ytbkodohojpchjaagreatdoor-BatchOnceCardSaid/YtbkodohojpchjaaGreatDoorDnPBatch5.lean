import Derived.Test.YtbkodohojpchjaaGreatDoorDnPBatch4
import Derived.Test.YtbkodohojpchjaaGreatDoorDnPBatch3
/- BatchOnce. Conditions: none. -/
set_option linter.unusedVariables false
set_option linter.unusedSimpArgs false
open List renaming mem_singleton→bN,mem_append→AS,getElem_mem→By
open Bool renaming false_eq_true→sh,not_true→AT,not_false→BY
open Go.Lit renaming int→AI
open Go renaming maxLen→IN
open List.Pairwise renaming nil→IT
open Go Dn
namespace Dn.S
theorem aeQ {o:aa}(h:Cx o=true):pG o:=by unfold pG;rw [wY,h]
def o14:aa:=⟨1,1,1,[47,97],[],0,0,0⟩
theorem amn:pG o14:=by unfold pG;decide+kernel
theorem ah4:(cK zl o14).1.Shelf.L.length=2:=by decide+kernel
theorem aeR:sD=some true:=by
 have hN: ∀o∈[o14],Kg o:=by intro o ho n hn;rw [bN.1 ho] at hn;simp only [GF,o14,List.mem_cons,List.not_mem_nil,or_false] at hn;unfold i64;omega
 have hM: ∀o∈[o14],pG o:=λo ho=>by rw [bN.1 ho];exact amn
 unfold sD;rw [show ([⟨1,1,1,([47,97]:List UInt8),([]:List UInt8),0,0,0⟩]:List aa)=[o14] from rfl,MZ hN (by simp),if_neg (by simp),if_pos hM,az,QQ,az];unfold kn;rw [Ki hN hM (by simp),az,decide_eq_true rfl,if_neg (by simp),J9 OC [o14] (by simp),az,az,M0 [] (by simp),show mV (wC [])=none from rfl];simp only [az,if_true];rw [show (fZ zl [o14]).2.1.length=1 from rfl,show (fZ zl [o14]).1=(cK zl o14).1 from rfl,ah4];rfl
theorem amo (out:List aa)(y:aa)(hl:out.length<=1000):bG (cZ out (λu=>iX u y)) λb=>b=false-> ∀u∈out,u.Client≠y.Client:=by
 unfold cZ eP;refine bG.bd (P:=λk=>(0<=k)\/(k= -1/\ ∀u∈out,u.Client≠y.Client)) ?_ ?_
 ·refine bG.bd (P:=λw=>match w with| .inl _=> ∀u∈out,u.Client≠y.Client| .inr k=>0<=k) ?_ ?_
  ·refine bG.loop (λst=> ∃i:Nat,st=(i:Int)/\i<=out.length/\ ∀u∈out.take i,u.Client≠y.Client) (λst=>out.length-st.toNat) ⟨0,rfl,by omega,by simp⟩ ?_;rintro st ⟨i,rfl,h1,h2⟩;unfold gl;by_cases cI:i<out.length;rotate_left
   ·rw [if_neg (by omega)];refine .mk ?_;rw [List.take_of_length_le (by omega)] at h2;exact h2
   rw [if_pos (by omega),b7 cI];unfold iX;rw [az];by_cases hc:out[i].Client=y.Client
   ·rw [decide_eq_true hc,if_pos rfl];exact .mk (by show (0:Int)<=(i:Int);omega)
   ·rw [decide_eq_false hc,if_neg (by simp),wrap64 (by omega) (by omega)];refine .mk ⟨⟨i+1,by simp,by omega,λu hu=> ?_⟩,by simp;omega⟩;rw [List.take_add_one,List.getElem?_eq_getElem cI] at hu;rcases AS.1 hu with hu|hu
    ·exact h2 u hu
    ·have:u=out[i]:=by simpa using hu
     rw [this];exact hc
  ·rintro (_|k) h
   ·exact .mk (.inr ⟨rfl,h⟩)
   ·exact .mk (.inl h)
 ·rintro k (h|⟨rfl,h⟩)
  ·exact .mk λhb=>by simp at hb;omega
  ·exact .mk λ_=>h
def abH (r:al)(l:List aa)(j:Nat):(List aa×Int)⊕List aa->Prop
 | .inl s'=>(∃i:Nat,s'.2=(i:Int)/\i<=l.length/\s'.1.length<=10/\s'.1.length<=i/\Li r s'.1/\ ∀o∈s'.1,o∈l)/\l.length-s'.2.toNat<l.length-j
 | .inr w=>w.length<=10/\w.length<=l.length/\Li r w/\ ∀o∈w,o∈l
theorem Kj {r:al}(h:dQ r)(l:List aa)(hl:l.length<=1000):bG (lh r l) λw=>w.length<=10/\w.length<=l.length/\Li r w/\ ∀o∈w,o∈l:=by
 unfold lh;refine bG.bd (P:=λw=>w.length<=10/\w.length<=l.length/\Li r w/\ ∀o∈w,o∈l) ?_ λw hw=> .mk hw;refine bG.loop (λst=> ∃i:Nat,st.2=(i:Int)/\i<=l.length/\st.1.length<=10/\st.1.length<=i/\Li r st.1/\ ∀o∈st.1,o∈l) (λst=>l.length-st.2.toNat) ⟨0,rfl,by omega,by simp,by simp,⟨by simp,by simp,IT⟩,by simp⟩ ?_;rintro ⟨w,n⟩ ⟨i,rfl,h1,h2,h3,h4,h5⟩;unfold rn;dsimp only at h2 h3 h4 h5⊢;by_cases cI:i<l.length;rotate_left
 ·rw [if_neg (by omega)];exact .mk ⟨h2,by omega,h4,h5⟩
 rw [if_pos (by omega),b7 cI,OB h,az];obtain ⟨b,eb,hb⟩:=amo w l[i] (by omega);rw [eb,az,wrap64 (by omega) (by omega)];refine bG.imp (P:=abH r l (i:Int).toNat) ?_ λx hx=>by cases x<;>exact hx
 have stay: ∀{X:Option Bool},X=some false->bG (bd X λw1=>bd (if w1 then if (w.length+([l[i]]:List aa).length) *80<=2^46 then some (w++([l[i]]:List aa)) else none else some w:Option (List aa)) λw2=>(some (.inl (w2,((i:Int)+1))):Option ((List aa×Int)⊕List aa))) (abH r l (i:Int).toNat):=by rintro X rfl;rw [az,if_neg (by simp),az];exact .mk ⟨⟨i+1,by simp,by omega,h2,Nat.le_succ_of_le h3,h4,h5⟩,by simp;omega⟩
 cases b with
 |true=>exact stay (by simp)
 |false=>
 have Y9:=hb rfl;cases hm:Cx l[i] with
 |false=>exact stay (by simp only [BY,if_true,wY,hm,az,sh,if_false])
 |true=>
 have take:M1 r l[i]->bG (bd (some (decide ((w.length:Int)<10)):Option Bool) λw1=>bd (if w1 then if (w.length+([l[i]]:List aa).length) *80<=2^46 then some (w++([l[i]]:List aa)) else none else some w:Option (List aa)) λw2=>(some (.inl (w2,((i:Int)+1))):Option ((List aa×Int)⊕List aa))) (abH r l (i:Int).toNat):=by
  intro jC;by_cases hw:(w.length:Int)<10;rotate_left
  ·rw [decide_eq_false hw];exact stay rfl
  rw [decide_eq_true hw,az,if_pos rfl,if_pos (by simp;omega),az];refine .mk ⟨⟨i+1,by simp,by omega,by simp;omega,by simp;omega,⟨λo ho=> ?_,λo ho=> ?_,?_⟩,λo ho=> ?_⟩,by simp;omega⟩
  ·rcases AS.1 ho with ho|ho
   ·exact h4.may o ho
   ·rw [bN.1 ho];exact hm
  ·rcases AS.1 ho with ho|ho
   ·exact h4.new o ho
   ·rw [bN.1 ho];exact jC
  ·refine List.pairwise_append.2 ⟨h4.pair,List.pairwise_singleton _ _,λa ha b hb=> ?_⟩;rw [bN.1 hb];exact Y9 a ha
  ·rcases AS.1 ho with ho|ho
   ·exact h5 o ho
   ·rw [bN.1 ho];exact By cI
 simp only [BY,if_true,wY,hm,az];cases sv:(fe r.Seen l[i].Client).2 with
 |false=>simp only [BY,if_true];exact take λhc=>by rw [sv] at hc;cases hc
 |true=>
  simp only [AT,sh,if_false];by_cases hs:(fe r.Seen l[i].Client).1.Seq<l[i].Seq
  ·rw [if_pos hs];exact take λ_=>hs
  ·rw [if_neg hs];exact stay rfl
theorem amp {r:al}(h:dQ r)(X:List ae)(Y:List a7){w:List aa}(hw:Li r w)(hl:w.length<=10):bG (Loop (nJ (r,X,Y) w) 0) λv=> ∃u,v= .inl u:=by
 refine bG.loop (λst=> ∃i:Nat,st=(i:Int)/\i<=w.length) (λst=>w.length-st.toNat) ⟨0,rfl,by omega⟩ ?_;rintro st ⟨i,rfl,h1⟩;unfold nJ;by_cases cI:i<w.length;rotate_left
 ·rw [if_neg (by omega)];exact .mk ⟨(),rfl⟩
 rw [if_pos (by omega)];refine bG.bd (P:=λv=> ∃u,v= .inl u) ?_ ?_
 ·refine bG.loop (λst=> ∃k:Nat,st=(k:Int)/\k<=i) (λst=>i-st.toNat) ⟨0,rfl,by omega⟩ ?_;rintro st ⟨k,rfl,h2⟩;unfold rq;by_cases hk:k<i;rotate_left
  ·rw [if_neg (by omega)];exact .mk ⟨(),rfl⟩
  have cR:w[k].Client≠w[i].Client:=List.pairwise_iff_getElem.1 hw.pair k i (by omega) cI hk;rw [if_pos (by omega),b7 (by omega:k<w.length),b7 cI,if_neg cR,wrap64 (by omega) (by omega)];exact .mk ⟨⟨k+1,by simp,by omega⟩,by simp;omega⟩
 ·rintro v ⟨u,rfl⟩;have hm:=hw.may _ (By cI);have hn:=hw.new _ (By cI);dsimp only;rw [b7 cI,OB h,az];cases sv:(fe r.Seen w[i].Client).2 with
  |true=>have:=hn sv;rw [if_pos rfl,b7 cI,if_neg (by omega),b7 cI,wY,az,hm,az,if_neg (by simp),wrap64 (by omega) (by omega)];exact .mk ⟨⟨i+1,by simp,by omega⟩,by simp;omega⟩
  |false=>rw [if_neg (by simp),b7 cI,wY,az,hm,az,if_neg (by simp),wrap64 (by omega) (by omega)];exact .mk ⟨⟨i+1,by simp,by omega⟩,by simp;omega⟩
theorem OI (a a1:List aa)(hw0: ∀y∈a,((AI .i64 y.Client).wf=true)/\((AI .i64 y.Seq).wf=true)/\((AI .i64 y.Kind).wf=true)/\(y.Path.length<=IN)/\(y.Value.length<=IN)/\((AI .i64 y.Version).wf=true)/\((AI .i64 y.Session).wf=true)/\((AI .i64 y.Span).wf=true))(hw: ∀y∈a1,((AI .i64 y.Client).wf=true)/\((AI .i64 y.Seq).wf=true)/\((AI .i64 y.Kind).wf=true)/\(y.Path.length<=IN)/\(y.Value.length<=IN)/\((AI .i64 y.Version).wf=true)/\((AI .i64 y.Session).wf=true)/\((AI .i64 y.Span).wf=true)):qv a a1=some true:=by
 have hN: ∀o∈a1,Kg o:=ah3 hw;unfold qv;rw [aeR];obtain ⟨b,eb,hb⟩:=U0 a;obtain ⟨b',eb',CR⟩:=U0 a1;rw [eb,az];cases b with
 |false=>simp
 |true=>
 have hl:=hb rfl;rw [eb'];cases b' with
 |false=>simp
 |true=>
 have CE:=CR rfl;simp only [AT,sh,if_false,az];rw [QQ,az,J9 OC a (by omega),az];obtain ⟨zo,hr,_,_⟩:=wZ a (st:=(zl,[],[])) OC;have hr:dQ (fZ zl a).1:=hr;have hNm:OD (fZ zl a).1:=by show OD (a.foldl rf (zl,[],[])).1;rw [zo];exact J8 a OC (λy hy=>by cases hy)
 obtain ⟨r,Py⟩: ∃r,r=(fZ zl a).1:=⟨_,rfl⟩
 obtain ⟨w,ew,w1,w2,w3,w4⟩:=Kj hr a1 (by omega);rw [ew,az,if_neg (by omega),decide_eq_false (by omega),az,if_neg (by simp)];obtain ⟨v,ev,u,rfl⟩:=amp hr (fZ zl a).2.1 (fZ zl a).2.2 w3 w1;rw [show ((fZ zl a).1,(fZ zl a).2.1,(fZ zl a).2.2)=fZ zl a from rfl] at ev;rw [ev,az];dsimp only;rw [<-Py] at hr hNm w3⊢;have hM: ∀o∈w,pG o:=λo ho=>aeQ (w3.may o ho);have hNw: ∀o∈w,Kg o:=λo ho=>hN o (w4 o ho);rw [MZ hNw (by omega),if_neg (show¬10<w.length by omega),if_pos hM,az];have amq: ∀{r:al},dQ r->kn r (E4 (Be w))=some ((fZ r w).1,(fZ r w).2.1,0):=by intro r hr;unfold kn;rw [Ki hNw hM w1,az,decide_eq_true rfl,if_neg (by simp),J9 hr w (by omega),az]
 obtain ⟨CF,Lw,XC,_⟩:=wZ w (st:=(r,[],[])) hr;obtain ⟨d1,R,d2,d3,d4⟩:=Xs (l:=w) (st:=(r,[],[])) hr w3;have Lw:dQ (fZ r w).1:=Lw;have d1: ∀o∈w,vZ (fZ r w).1 o:=d1;have d2:(fZ r w).2.1=R:=d2;have hNx:OD (fZ r w).1:=by show OD (w.foldl rf (r,[],[])).1;rw [CF];exact J8 w hr hNm
 obtain ⟨x,hx⟩: ∃x,x=(fZ r w).1:=⟨_,rfl⟩
 rw [amq hr,az,<-hx,d2];rw [<-hx] at Lw d1 hNx;rw [amq Lw,az];have iM:(fZ x w).1=x:=by have:=(wZ w (st:=(x,[],[])) Lw).1;show (w.foldl rf (x,[],[])).1=x;rw [this];exact Ti λo ho=>⟨w3.may o ho,d1 o ho⟩
 simp only [iM,decide_true,AT,sh,if_false];rw [decide_eq_true (show (R.length:Int)=(w.length:Int) by omega),J4 (abt Lw) hNx];simp only [AT,sh,if_false,az];obtain ⟨v3,e3,u3,rfl⟩:bG (Loop (nK w (x,R,0)) 0) λv=> ∃u,v= .inl u:=by
  refine bG.loop (λst=> ∃i:Nat,st=(i:Int)/\i<=R.length) (λst=>R.length-st.toNat) ⟨0,rfl,by omega⟩ ?_;rintro st ⟨i,rfl,h1⟩;unfold nK;dsimp only;by_cases cI:i<R.length;rotate_left
  ·rw [if_neg (by omega)];exact .mk ⟨(),rfl⟩
  have hlw:i<w.length:=by omega
  obtain ⟨q1,q2⟩:=d4 i hlw cI;rw [if_pos (by omega),b7 cI,b7 hlw,decide_eq_true q1,if_neg (by simp),b7 cI,b7 hlw,decide_eq_true q2,az,if_neg (by simp),wrap64 (by omega) (by omega)];exact .mk ⟨⟨i+1,by simp,by omega⟩,by simp;omega⟩
 rw [e3,az];dsimp only;simp only [if_true,az];by_cases V0:(50:Int)<=(x.Seen.length:Int)
 ·rw [if_pos V0];rfl
 rw [if_neg V0];obtain ⟨w',ew',_,_,g3,g4⟩:=Kj Lw w (by omega);have RN:w'=[]:=by
  refine List.eq_nil_iff_forall_not_mem.2 λo ho=> ?_;have hd:=d1 o (g4 o ho);have hn:=g3.new o ho;rcases hd with ⟨p1,p2⟩|⟨_,p2⟩
  ·have:=hn p1;omega
  ·omega
 rw [ew',RN];rfl
end Dn.S
