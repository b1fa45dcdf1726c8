import Derived.Test.YtmdlghpieagfhaaGreatDnPCalm7
import Derived.Test.YtmdlghpieagfhaaGreatDnPAgree9
/- SlotCalm. Conditions: none. -/
set_option linter.unusedVariables false
set_option linter.unusedSimpArgs false
open List renaming getElem?_eq_getElem→cV,getElem?_eq_some_iff→sh,getElem_mem→BY,getElem?_set_self→IT,getElem?_set_ne→No,take_zero→aaJ
open Option.some renaming inj→AI
open Bool renaming false_eq_true→AT,not_true→aau
open Nat renaming zero_le→OF
open Int renaming le_refl→aaK
open Go Dn
namespace Dn.S
theorem VX.mono {bad:List Bool}{c:aj}{k:Nat}(h:VX bad c k):VX bad c (k+1):=λj n hb hn=>⟨(h j n hb hn).1,by have:=(h j n hb hn).2;omega⟩
theorem VX.put {bad:List Bool}{c:aj}{k:Nat}(h:VX bad c k){i:Nat}(hi:i<c.N.length) {n':ao}{out:List ai}(hn:n'.et<=n'.A.View/\n'.A.View<=((k+1:Nat):Int)):VX bad (kl c i n' out) (k+1):=by
 intro j n hb h1;have h1:(c.N.set i n')[j]? =some n:=h1;by_cases vF:j=i
 ·subst vF;rw [IT hi] at h1;obtain rfl:=AI h1;exact hn
 ·rw [No (λe=>vF e.symm)] at h1;exact h.mono j n hb h1
theorem ajA {s:ae}{bad:List Bool}{want:List (List UInt8)}{c:aj}{k:Nat}(h:Inv s bad want c k)(hk:k<=400)(Dq:bad.length<=30)(hw:want.length=bad.length)(hV:VX bad c k){y:dv}(hy:ER y):aK (eB c y) λc'=>VX bad c' (k+1):=by
 refine K0 h hk Dq hw hy hV.mono (λ_ _=>hV.mono) λi n x _ _ hb hi hn E5 hx=>hV.put hi ?_;obtain ⟨v1,v2⟩:=hV i _ hb hn;have v0:=E5.acc.jB.v0;rcases hx.2 with ⟨m,hm,e⟩|rfl|⟨w,e⟩|rfl
 ·obtain ⟨x',ex,_,e1,e2⟩:=ET E5 (by omega) (h.short _ hm);rw [e] at ex;obtain rfl:=AI ex;rw [e1,e2];omega
 ·rw [wrap64 (by omega) (by omega),dV,yZ (by omega) (by omega)];simp only [if_true];omega
 ·obtain ⟨x',ex,_,e1,e2⟩:=EU E5 (by omega) w;rw [e] at ex;obtain rfl:=AI ex;rw [e1];omega
 ·exact ⟨aaK _,by show n.A.View<=_;omega⟩
section
variable {F T:Nat}{s:ae}{bad:List Bool}{want:List (List UInt8)}{g:Gh}{c:aj}{k:Nat}{v:Int}
theorem Hi {n:ao}(h:n.A.View<v)(hv:v<=100000):dV n v=(⟨⟨n.A.S,n.A.Me,v,n.A.Has,n.A.At,n.A.Value,n.A.Proof,⟨[]⟩⟩,n.L,[],n.et⟩,[EP (iL n.A v).2.1]):=by rw [dV,yZ h hv];rfl
theorem acS {n:ao}{i:Int}(hI:dP s i n k)(hv:n.A.View<v):(mB n.A.Proof).1<v:=by
 have hl:=hI.acc.jB;have h0:=hl.v0;rcases hl.proof with hp|⟨hp,hle⟩
 ·rw [hp];show (-1:Int)<v;omega
 ·have Nj:=(b7 _).1 hp.sz;have Lj:=hp.len;have h0:0<n.A.Proof.length:=by omega
  rw [KE h0];have:=hle _ (BY h0);omega
theorem afB (asN:kz s<=100)(Dq:bad.length<=30)(h:ng F T s bad want g c k)(hp0:c.aC=[])(cJ: ∀(j:Nat) n,bad[j]? =some false->c.N[j]? =some n->n.A.View<v)(hv:v<=100000): aK (iO (λi c=>bd (dx c (i:Int) v) λr=>some r.2) bad 0 c) λc1=> ∃g',g.le g'/\ng F T s bad want g' c1 (k+bad.length)/\EL F T s bad c v bad.length c1:=by
 refine US (λi c'=> ∃g',g.le g'/\ng F T s bad want g' c' (k+i)/\EL F T s bad c v i c') bad ?_ ?_ ⟨g,.refl g,h,⟨λj _ hj=>by omega,λ_ _=>rfl,by rw [hp0];simp,λm hm=>by rw [hp0] at hm;cases hm⟩⟩
 ·rintro i c' hb ⟨g',q1,q2,q3⟩;have hi:=rK q2.inv hb;have TW:=(sh.1 hb).1;have Mi:c'.N[i]? =some c'.N[i]:=cV hi;have ajB:c.N[i]? =some c'.N[i]:=by rw [<-q3.todo i (Nat.le_refl _)];exact Mi
  have Sx:=h.inv.nodes i _ ajB;have Lr:=cJ i _ hb ajB;have e:=Hi Lr hv;have auT:=q3.len;obtain ⟨ex,hx⟩:=yU (q2.inv.nodes i _ Mi) v;obtain ⟨r,er,hr⟩:=afw q2 hb v;have e1:dx c' (i:Int) v=some ((),kl c' i (dV c'.N[i] v).1 (dV c'.N[i] v).2):=by rw [<-q2.inv.S] at ex;unfold dx;rw [bB hi,ex,au,yV hi _ q2.inv.lI (by have:=hx.out;omega),au]
  rw [e1] at er;obtain rfl:=AI er;rw [e1,au];obtain ⟨g2,t1,t2⟩:=hr;have qu:(kl c' i (dV c'.N[i] v).1 (dV c'.N[i] v).2).aC=c'.aC++[EP (iL c'.N[i].A v).2.1]:=by show c'.aC++List.take (400-c'.aC.length) _=_;rw [e,List.take_of_length_le (by simp;omega)]
  have za:(kl c' i (dV c'.N[i] v).1 (dV c'.N[i] v).2).N[i]? =some (dV c'.N[i] v).1:=IT hi;have zt: ∀b,b≠i->(kl c' i (dV c'.N[i] v).1 (dV c'.N[i] v).2).N[b]? =c'.N[b]? :=λb hb=>No (λe=>hb e.symm);refine .mk ⟨g2,q1.trans t1,t2,⟨λj n0 hj Dr zO=> ?_,λj hj=> ?_,?_,λm hm=> ?_⟩⟩
  ·show _/\_∈(kl c' i (dV c'.N[i] v).1 (dV c'.N[i] v).2).aC;rw [qu];by_cases vF:j=i
   ·subst vF;rw [ajB] at zO;obtain rfl:=AI zO;exact ⟨za,List.mem_append_right _ (by simp)⟩
   ·obtain ⟨d1,d2⟩:=q3.done j n0 (by omega) Dr zO;exact ⟨by rw [zt j vF];exact d1,List.mem_append_left _ d2⟩
  ·rw [zt j (by omega)];exact q3.todo j (by omega)
  ·show (kl c' i (dV c'.N[i] v).1 (dV c'.N[i] v).2).aC.length<=_;rw [qu,List.length_append,List.length_singleton];omega
  ·have hm:m∈(kl c' i (dV c'.N[i] v).1 (dV c'.N[i] v).2).aC:=hm;rw [qu] at hm;rcases List.mem_append.1 hm with hm|hm
   ·exact q3.lI m hm
   ·rw [List.mem_singleton.1 hm,yZ Lr hv];exact ⟨rfl,ajz Sx asN ⟨Lr,hv⟩,rfl⟩
 ·rintro i c' hb ⟨g',q1,q2,q3⟩;refine ⟨g',q1,⟨q2.inv.mono,q2.say⟩,⟨λj n0 hj Dr zO=>q3.done j n0 ?_ Dr zO,λj hj=>q3.todo j (by omega),by have:=q3.len;omega,q3.lI⟩⟩;have:j≠i:=λe=>by rw [e,hb] at Dr;cases Dr
  omega
theorem afC (v:Int)(N:List ao):Ma v N<=3 *N.length:=by
 induction N with
 |nil=>simp [Ma]
 |cons n N ih=>
  have:K4 v n<=3:=by unfold K4 K3;(repeat' split)<;>omega
  simp only [Ma,List.map_cons,List.sum_cons,List.length_cons] at ih⊢;omega
theorem afD {b:Int}(h:isG bad b): ¬L7 bad b:=by rintro ⟨_,hb⟩;obtain ⟨j,rfl,hj⟩:=h;rw [Int.toNat_natCast] at hb;unfold wK at hb;rw [hj] at hb;cases hb
theorem afE (Dq:bad.length<=30){c1:aj}(h:ng F T s bad want g c k)(cJ: ∀(j:Nat) n,bad[j]? =some false->c.N[j]? =some n->n.et<=n.A.View/\n.A.View<v)(hv:v<=100000)(hl:bad[(dG s v).toNat]? =some false)(U5:0<=dG s v)(h1:EL F T s bad c v bad.length c1)(hlen:c1.N.length=bad.length):LS s bad v none (λ_=>0) c1:=by
 have Hh: ∀(j:Nat) n,bad[j]? =some false->c1.N[j]? =some n-> ∃n0,c.N[j]? =some n0/\n=⟨⟨n0.A.S,n0.A.Me,v,n0.A.Has,n0.A.At,n0.A.Value,n0.A.Proof,⟨[]⟩⟩,n0.L,[],n0.et⟩/\EP (iL n0.A v).2.1∈c1.aC:=by intro j n hb hn;have hj:=rK h.inv hb;have zO:c.N[j]? =some c.N[j]:=cV hj;obtain ⟨d1,d2⟩:=h1.done j _ (sh.1 hb).1 hb zO;rw [Hi (cJ j _ hb zO).2 hv,hn] at d1;exact ⟨_,zO,AI d1,d2⟩
 refine ⟨λj n hb hn=> ?_,λm hm=> ?_,λj hb=> ?_,λj n hj hn=> ?_,?_,λ_ _=>OF _⟩
 ·obtain ⟨n0,e0,rfl,_⟩:=Hh j n hb hn;have hI:=h.inv.nodes j _ e0;have an8:=cJ j _ hb e0;have zN:=acS hI an8.2;have B3: ∀{Q:ai->Prop},¬ ∃m∈c1.aC.take 0,Q m:=λ⟨m,hm,_⟩=>by rw [aaJ] at hm;cases hm
  have hnm: ∀m,m∉c1.aC.take 0:=λm hm=>by rw [aaJ] at hm;cases hm
  refine ⟨rfl,λ_ hc=> ?_,λq=>absurd q B3,λe he=>(by cases he),λm hm=>absurd hm (hnm m),λq=> ?_,λq=>absurd (q j hb) B3,λe he hg=> ?_,λ_ m hm=>absurd hm (hnm m),λq=>absurd (q j hb) B3,λ_ m hm=>absurd hm (hnm m),λr hr=>(by cases hr)⟩
  ·have:=(hI.acc.jB.has hc.1).2.1;have:n0.A.At=v:=hc.2;have:=an8.2;omega
  ·have q:v<=(mB n0.A.Proof).1:=q;omega
  ·have hc:=((h.say.node j _ hb e0).sL e he).resolve_left (afD hg);obtain ⟨i,hi,Lc⟩:=hg;have hi2:=rK h.inv Lc;have Mi:c.N[i]? =some c.N[i]:=cV hi2;have h2:=(h.say.node i _ Lc Mi).Hf e hc hi;have h3:=acS (h.inv.nodes i _ Mi) (cJ i _ Lc Mi).2;exact ⟨by omega,λq=>by omega⟩
 ·obtain ⟨k4,h2,h3⟩:=h1.lI m hm;exact ⟨λq=>by omega,λq=>by omega,λq=>by omega,λ_=>⟨h2,h3⟩⟩
 ·have hj:j<c1.N.length:=by rw [hlen];exact (sh.1 hb).1
  obtain ⟨n0,e0,_,hm⟩:=Hh j _ hb (cV hj);refine ⟨_,hm,rfl,?_⟩;rw [yZ (cJ j _ hb e0).2 hv];exact (h.inv.nodes j _ e0).sq
 ·have hb:bad[j]? =some false:=by rw [<-hl,<-hj];rfl
  obtain ⟨n0,e0,rfl,_⟩:=Hh j n hb hn;have:=cJ j _ hb e0;exact ⟨λ_=>by show n0.et<v;omega,λx hx=>(by cases hx)⟩
 ·have:=afC v c1.N;have:=h1.len;simp only [Option.isSome_none,AT,if_false];omega
theorem ajC (hF:s.F=F)(hT:s.T=T)(hs:cC s)(hn:(bad.length:Int)=kz s)(Dq:bad.length<=30)(hws: ∀x∈want,x.length<=6000)(hw:want.length=bad.length)(hk:k<=1000)(h:ng F T s bad want g c k)(hV:VX bad c 80): aK (qW c) λc'=>(∃k',EZ F T s bad want g c' k')/\ ∀(j:Nat) n,bad[j]? =some false->c'.N[j]? =some n->n.L.bw=true:=by
 have hB:=h.inv.bY;have hS:=h.inv.S;have hl:=h.inv.len;have iF:=h.still;unfold qW;rw [gO (by omega),au,if_pos (by rw [hB];omega)];obtain ⟨v,ev,v0,v1,v2,v3⟩:=afx iF.inv;rw [hB] at ev⊢;rw [hB] at iF v2 v3;rw [ev,au];have afF:=h.say.ok.said.E4;have Nj:=(b7 s).1 hs;have azb:v<=81:=v2 81 (by omega) λj n hb hn=>by have:=(hV j n hb hn).2;omega
 obtain ⟨j,hj⟩:=Sf afF (by unfold kz at hn;omega);obtain ⟨v',ev',q1,q2,q3,q4⟩:=ajw (c:=⟨c.S,bad,c.Want,c.N,[]⟩) (by rw [hS];exact hs) (by rw [hS];exact hn) hj v0 (by omega);rw [ev',au];rw [show (⟨c.S,bad,c.Want,c.N,[]⟩:aj).S=s from hS] at q2 q3 q4;have an1:kz s<=100:=by unfold kz;omega
 rw [if_neg (by omega)];have SS:=rK h.inv hj;have hvj:0<v:=by have h1:=(h.inv.nodes j _ (cV SS)).acc.jB.v0;have h2:=v3 j _ hj (cV SS);omega
 have cJ: ∀(j:Nat) n,bad[j]? =some false->c.N[j]? =some n->n.et<=n.A.View/\n.A.View<v':=λj n hb hn=>⟨(hV j n hb hn).1,by have:=v3 j n hb hn;omega⟩
 have hG:2 *s.F+2 *s.T+1<=((su bad).length:Int):=by have:=Yr bad;unfold kz at hn;omega
 refine aK.bd (afB (v:=v') an1 Dq iF rfl (λj n hb hn=>(cJ j n hb hn).2) (by omega)) ?_;rintro c1 ⟨g1,t1,t2,t3⟩;have hLS:=afE (F:=F) (T:=T) Dq iF cJ (by omega) q3 q4 t3 t2.inv.len;refine aK.loop (λp=> ∃at_:Nat,p.1=(at_:Int)/\at_<=400/\TL F T s bad want g v' at_ p.2 (k+bad.length+at_ *(bad.length+1))) (λp=>401-p.1.toNat) ⟨0,rfl,by omega,g1,none,t1,by simpa using t2,hLS,OF _,λq=>absurd q (by omega)⟩ ?_;rintro ⟨n,c2⟩ ⟨at_,rfl,hle,YC⟩;have hmul:at_ *(bad.length+1)<=400 *31:=Nat.mul_le_mul (by omega) (by omega);refine (ajy hF hT hs hn Dq hws hw (by omega) ⟨by omega,by omega⟩ q3 q4 (by omega) YC).imp ?_;rintro (p|c') hx
 ·obtain ⟨p1,p2,p3⟩:=hx;refine ⟨⟨at_+1,p1,by omega,?_⟩,?_⟩
  ·rw [Nat.add_mul,Nat.one_mul];rw [show k+bad.length+(at_ *(bad.length+1)+(bad.length+1))=k+bad.length+at_ *(bad.length+1)+bad.length+1 by omega];exact p3
  ·show 401-p.1.toNat<401-((at_:Int)).toNat;rw [p1];omega
 ·obtain ⟨rfl,HN⟩:=hx;obtain ⟨g2,X,u1,u2,u3,u4,u5⟩:=YC;refine ⟨⟨_,g2,u1,u2⟩,λj n hb hn=> ?_⟩;obtain ⟨m,hm,_⟩:=u3.acQ j hb;have iY:0<c'.aC.length:=List.length_pos_of_mem hm;rw [<-HN] at u3 u5;exact Yv hG q3 q4 u2.inv.len u3 (u5 iY) hb hn
end
theorem an9 {s:ae}{bad:List Bool}{want:List (List UInt8)}:VX bad (tC s bad want) 0:=by
 intro j n _ hn;obtain ⟨hi,he⟩:=sh.1 hn;have:n=rc s (j:Int):=by rw [<-he];simp [tC]
 rw [this];exact ⟨by show (-1:Int)<=0;omega,aaK _⟩
theorem VX.le {bad:List Bool}{c:aj} {k k':Nat}(h:VX bad c k)(hk:k<=k'):VX bad c k':=λj n hb hn=>⟨(h j n hb hn).1,by have:=(h j n hb hn).2;omega⟩
theorem PC (a:mb)(a1:List dv):th a a1=some true:=by
 unfold th;rw [afo];obtain ⟨b,e,hb⟩:=UH a a1;rw [e,au];cases b with
 |false=>simp
 |true=>
 have hc:=hb rfl;simp only [aau,AT,if_false,au];obtain ⟨r,er,h1,_⟩:=Nw a.S a.bY a.Want hc.bad hc.want;obtain ⟨r',er',afF⟩:=afv a.S a.bY a.Want hc.bad hc.want;rw [er] at er';obtain rfl:=AI er';rw [er,au];by_cases c5:r.2=0;rotate_left
 ·simp [c5]
 obtain ⟨hs,hn,hw,hws,hr⟩:=h1 c5;have afF:=afF c5;have h80:=hc.len;simp only [c5,decide_true,aau,AT,if_false];rw [hr];have Nj:=(b7 a.S).1 hs;obtain ⟨F,hF⟩: ∃F:Nat,a.S.F=F:=⟨a.S.F.toNat,by omega⟩
 obtain ⟨T,hT⟩: ∃T:Nat,a.S.T=T:=⟨a.S.T.toNat,by omega⟩
 have wh:ng F T a.S a.bY a.Want noG (tC a.S a.bY a.Want) 0:=⟨afq hs hn,anY hF hT hs hn (by omega)⟩
 refine aK.eq (aK.bd (P:=λr=> ∃(c:aj) (k:Nat) (g:Gh),k<=80/\r=(c.S.F,c.S.T,c.bY,c.Want,c.N,c.aC)/\ng F T a.S a.bY a.Want g c k/\VX a.bY c k) ?_ ?_)
 ·refine aK.loop (λst=> ∃(c:aj) (k:Nat) (g:Gh),k<=a1.length/\st=(c.S.F,c.S.T,c.bY,c.Want,c.N,c.aC,(k:Int))/\ng F T a.S a.bY a.Want g c k/\VX a.bY c k) (λst=>a1.length-(st.2.2.2.2.2.2).toNat) ⟨tC a.S a.bY a.Want,0,noG,OF _,rfl,wh,an9⟩ ?_;rintro st ⟨c,k,g,hk,rfl,hI,hV⟩;unfold uw;simp only [eS];by_cases cJ:k<a1.length;rotate_left
  ·rw [if_neg (by omega)];exact .mk ⟨c,k,g,by omega,rfl,hI,hV⟩
  rw [if_pos (by omega),bB cJ];obtain ⟨c',ec,hI',g',hg',hG'⟩:=aju hF hT hn hI.inv (by omega) hc.bad hw hI.say (hc.anT _ (BY cJ));obtain ⟨c2,e2,hV'⟩:=ajA hI.inv (by omega) hc.bad hw hV (hc.anT _ (BY cJ));rw [ec] at e2;obtain rfl:=AI e2;rw [ec,au,wrap64 (by omega) (by omega)];exact .mk ⟨⟨c',k+1,g',cJ,rfl,⟨hI',hG'⟩,hV'⟩,by simp only;omega⟩
 ·rintro r ⟨c,k,g,hk,rfl,hI,hV⟩;simp only [eS];obtain ⟨c',ec,⟨k',g',hg',hH'⟩,hd⟩:=ajC hF hT hs hn hc.bad hws hw (by omega) hI (hV.le hk);rw [ec,au];have hlen:=hH'.inv.len;have hB:=hH'.inv.bY;have h30:=hc.bad;refine aK.bd (P:=λw=>w= .inl false) ?_ ?_
  ·refine aK.loop (λst=> ∃(i:Nat),st.2.2=(i:Int)/\i<=a.bY.length/\(st.2.1=false->g'.L st.1)/\(st.2.1=true-> ∀j<i,a.bY[j]? ≠some false)) (λst=>a.bY.length-st.2.2.toNat) ⟨0,rfl,OF _,λq=>(by cases q),λ_ j hj=>by omega⟩ ?_;rintro ⟨val,first,n⟩ ⟨i,rfl,hi,f1,f2⟩;unfold ux;dsimp only at f1 f2⊢;by_cases cJ:(i:Int)<(a.bY.length:Int);rotate_left
   ·rw [if_neg cJ];refine .mk ?_;obtain ⟨j,hj⟩:=Sf (F:=F) (bad:=a.bY) (by omega) (by unfold kz at hn;omega);cases first with
    |false=>rfl
    |true=>exact absurd hj (f2 rfl j (by have:=(sh.1 hj).1;omega))
   have hil:i<a.bY.length:=by omega
   have hiN:i<c'.N.length:=by omega
   rw [if_pos cJ,Se hiN (by rw [hB];exact hlen),au,bB hil,wrap64 (by omega) (by omega)];cases Lc:a.bY[i] with
   |true=>
    rw [if_pos rfl];refine .mk ⟨⟨i+1,by simp,by omega,f1,λq j hj hq=> ?_⟩,by simp only;omega⟩;by_cases vF:j=i
    ·rw [vF,cV hil,Lc] at hq;cases hq
    ·exact f2 q j (by omega) hq
   |false=>
    have qx:a.bY[i]? =some false:=by rw [cV hil,Lc]
    have Cn:=hd i _ qx (cV hiN);have YB:c'.bY[i]? =some false/\c'.N[i].L.bw=true:=⟨by rw [hB];exact qx,Cn⟩
    have hg:=hH'.say.Bg hB hiN YB;rw [if_neg (by simp),if_pos YB];dsimp only;have hq:(if (!true)=true then some true else if (!first)=true then some (!decide (c'.N[i].L.Value=val)) else some false:Option Bool)=some false:=by
     cases first with
     |true=>rfl
     |false=>simp only [aau,Bool.not_false,AT,if_false,if_true];rw [decide_eq_true (hH'.say.one hg (f1 rfl))];rfl
    rw [hq,au,if_neg (by simp)];exact .mk ⟨⟨i+1,by simp,by omega,λ_=>hg,λq=>(by cases q)⟩,by simp only;omega⟩
  ·rintro w rfl;simp only [au,if_true];exact .mk rfl
end Dn.S
