import Derived.Test.YtmdlghpieagfhaaGreatDnPCalm
import Derived.Test.YtmdlghpieagfhaaGreatDnC
/-
  Calm ends, and keeps what good ones said. Conditions: none.
-/
set_option linter.unusedVariables false
set_option linter.unusedSimpArgs false
open List renaming getElem?_eq_getElem→cM,getElem?_eq_some_iff→sh,getElem_mem→AI
open Option.some renaming inj→AT
open Go Dn
namespace Dn.S
theorem ab2 {σ:Type}{step:Nat->σ->Option σ}(I:Nat->σ->Prop)(bad:List Bool)(hg: ∀i s,bad[i]? =some false->I i s->aL (step i s) (I (i+1)))(hb: ∀i s,bad[i]? =some true->I i s->I (i+1) s){s:σ}(h:I 0 s):aL (iG step bad 0 s) (I bad.length):=by
 suffices hs: ∀(l:List Bool) (i:Nat) (s:σ),(∀j,l[j]? =bad[i+j]?)->i+l.length=bad.length->I i s->aL (iG step l i s) (I bad.length) from hs bad 0 s (λj=>by rw [Nat.zero_add]) (by omega) h
 intro l;induction l with
 |nil=>
  intro i s _ he hI;have:i=bad.length:=by simpa using he
  subst this;exact .mk hI
 |cons b r ih=>
  intro i s hl he hI;have h0:=hl 0;simp only [List.getElem?_cons_zero,Nat.add_zero] at h0;have hr: ∀j,r[j]? =bad[i+1+j]? :=λj=>by have:=hl (j+1);rw [List.getElem?_cons_succ] at this;rw [this];congr 1;omega
  have he':i+1+r.length=bad.length:=by simp only [List.length_cons] at he;omega
  simp only [iG];cases b with
  |true=>exact ih (i+1) s hr he' (hb i s h0.symm hI)
  |false=>obtain ⟨s',e,h'⟩:=hg i s h0.symm hI;simp only [Bool.false_eq_true,if_false,e];exact ih (i+1) s' hr he' h'
theorem aeV {s:ae}{bad:List Bool}{want:List (List UInt8)}{c:aj}{k:Nat}(h:Inv s bad want c k):aL (iG (λi v=>Dn.bd (jI (i:Int) v c) λr=>some r.2) bad 0 (0:Int)) λv=>0<=v/\v<=100001/\(∀w:Int,0<=w->(∀(j:Nat) n,bad[j]? =some false->c.N[j]? =some n->n.A.View+1<=w)->v<=w)/\ ∀(j:Nat) n,bad[j]? =some false->c.N[j]? =some n->n.A.View<v:=by
 refine (ab2 (λi v=>0<=v/\v<=100001/\(∀w:Int,0<=w->(∀(j:Nat) n,bad[j]? =some false->c.N[j]? =some n->n.A.View+1<=w)->v<=w)/\ ∀(j:Nat) n,j<i->bad[j]? =some false->c.N[j]? =some n->n.A.View<v) bad ?_ ?_ ⟨by omega,by omega,λw h0 _=>h0,λj n hj=>by omega⟩).imp ?_
 ·rintro i v hb ⟨h0,h1,h2,h3⟩;have hi:=Hu h hb;have hn:=h.nodes i _ (cM hi);have v0:=hn.acc.lm.v0;have v1:=hn.acc.lm.v1;unfold jI;rw [bA hi,au,wrap64 (by omega) (by omega)];refine .mk ?_;have him:imax v (c.N[i].A.View+1)=if v<c.N[i].A.View+1 then c.N[i].A.View+1 else v:=by unfold imax;by_cases q:c.N[i].A.View+1>v<;>simp [q]
  simp only [him];refine ⟨by split<;>omega,by split<;>omega,λw hw0 hw=> ?_,λj n hj hbj hnj=> ?_⟩
  ·have q1:=hw i _ hb (cM hi);have q2:=h2 w hw0 hw;split<;>omega
  ·by_cases Ma:j=i
   ·subst Ma;rw [cM hi] at hnj;obtain rfl:=AT hnj;split<;>omega
   ·have:=h3 j n (by omega) hbj hnj;split<;>omega
 ·rintro i v hb ⟨h0,h1,h2,h3⟩;refine ⟨h0,h1,h2,λj n hj hbj hnj=> ?_⟩;by_cases Ma:j=i
  ·subst Ma;rw [hb] at hbj;cases hbj
  ·exact h3 j n (by omega) hbj hnj
 ·rintro v ⟨h0,h1,h2,h3⟩;exact ⟨h0,h1,h2,λj n hb hn=>h3 j n (sh.1 hb).1 hb hn⟩
theorem ab3 {F:Nat}{bad:List Bool}(h:bad.countP id<=F)(hF:F<bad.length): ∃j:Nat,bad[j]? =some false:=by
 apply Classical.byContradiction;intro db;have kF: ∀b∈bad,id b=true:=by
  intro b hb;obtain ⟨j,hj,rfl⟩:=List.getElem_of_mem hb;cases hq:bad[j] with
  |true=>rfl
  |false=>exact absurd ⟨j,by rw [cM hj,hq]⟩ db
 have:=List.countP_eq_length.2 kF;omega
theorem aiJ {c:aj}(hs:cC c.S)(hn:(c.bY.length:Int)=mS c.S){j:Nat}(hj:c.bY[j]? =some false){v:Int}(h0:0<=v)(h1:v<=1000000): aL (Loop (j0 c) v) λv'=>v<=v'/\v'<v+mS c.S/\c.bY[(kC c.S v').toNat]? =some false/\0<=kC c.S v':=by
 have hN:0<mS c.S:=by have:=(dB c.S).1 hs;unfold mS;omega
 have arY:mS c.S<=100:=by have:=(dB c.S).1 hs;unfold mS;omega
 have C2:=(sh.1 hj).1;obtain ⟨w,hw1,hw2,hw3⟩: ∃w:Int,v<=w/\w<v+mS c.S/\w%mS c.S=(j:Int):=by
  refine ⟨v+((j:Int)-v)%mS c.S,?_,?_,?_⟩
  ·have:=Int.emod_nonneg ((j:Int)-v) (by omega:mS c.S≠0);omega
  ·have:=Int.emod_lt_of_pos ((j:Int)-v) hN;omega
  ·rw [Int.add_emod,Int.emod_emod,<-Int.add_emod];rw [show v+((j:Int)-v)=(j:Int) by omega];exact Int.emod_eq_of_lt (by omega) (by omega)
 have ab4: ∀x:Int,0<=x->kC c.S x=x%mS c.S:=by intro x hx;unfold kC imax;rw [if_neg (by omega)];exact Int.tmod_eq_emod_of_nonneg hx
 refine aL.loop (λx=>v<=x/\x<=w) (λx=>(w-x).toNat) ⟨Int.le_refl _,hw1⟩ ?_;rintro x ⟨q1,q2⟩;unfold j0;rw [fp hs,au,mQ,au,ab4 x (by omega)];have hx0:=Int.emod_nonneg x (by omega:mS c.S≠0);by_cases hg:0<=x%mS c.S/\c.bY[(x%mS c.S).toNat]? =some false
 ·rw [decide_eq_true hg,if_pos rfl];exact .mk ⟨q1,by omega,by rw [ab4 x (by omega)];exact hg.2,by rw [ab4 x (by omega)];exact hg.1⟩
 ·rw [decide_eq_false hg,if_neg (by simp),wrap64 (by omega) (by omega)];have db:x≠w:=λe=>hg ⟨hx0,by rw [e,hw3];simpa using hj⟩;exact .mk ⟨⟨by omega,by omega⟩,by show (w-(x+1)).toNat<(w-x).toNat;omega⟩
theorem GK {F T:Nat}{s:ae}{bad:List Bool}{want:List (List UInt8)}{g:Gh}{c:aj}{k:Nat}{step:Nat->aj->Option aj}(h:sO F T s bad want g c k)(M:Nat)(hM:k+bad.length<=M)(hs: ∀(i:Nat)(c:aj) (g':Gh)(k:Nat),g.le g'->bad[i]? =some false->sb F T s bad want g' c k->k<=M->aL (step i c) λc'=>sO F T s bad want g' c' (k+1)):aL (iG step bad 0 c) λc'=>sO F T s bad want g c' (k+bad.length):=by
 refine ab2 (λi c=>sO F T s bad want g c (k+i)) bad ?_ ?_ h
 ·rintro i c hb ⟨g',hl,hh⟩;have hi:=(sh.1 hb).1;refine (hs i c g' (k+i) hl hb hh (by omega)).imp ?_;rintro c' ⟨g2,h2,h3⟩;exact ⟨g2,hl.trans h2,h3⟩
 ·rintro i c hb ⟨g',hl,hh⟩;exact ⟨g',hl,⟨hh.inv.mono,hh.say⟩⟩
theorem aiK {F T:Nat}{s:ae}(hF:s.F=F)(hT:s.T=T)(hs:cC s){bad:List Bool}(hn:(bad.length:Int)=mS s)(Ud:bad.length<=30){want:List (List UInt8)}(hw:want.length=bad.length){g:Gh}{c:aj}{k:Nat}{v:Int}(hl:bad[(kC s v).toNat]? =some false)(hl0:0<=kC s v)(hk:k<=500000){at_:Nat}(h:sO F T s bad want g c k): aL (nW v ((at_:Int),c)) λx=>match x with| .inl p=>p.1=((at_+1:Nat):Int)/\at_<400/\sO F T s bad want g p.2 (k+bad.length+1)| .inr c'=>c'=c:=by
 obtain ⟨g1,hg1,hh⟩:=h;have hp:=hh.inv.r9;have hB:=hh.inv.bY;unfold nW;dsimp only;by_cases cT:(at_:Int)<(c.aV.length:Int);rotate_left
 ·rw [if_neg cT];exact .mk rfl
 have GP:at_<c.aV.length:=by omega
 have hm:=hh.inv.short _ (AI GP);have hmg:=hh.say.r9 _ (AI GP);rw [if_pos cT,bA GP,if_pos (by rw [hB];omega),hB];refine aL.bd (GK (g:=g1) (k:=k) ⟨g1,.refl g1,hh⟩ 1000000 (by omega) ?_) ?_
 ·intro i c' g' k' hle hb hh' LX;obtain ⟨r,er,hr⟩:=XM hF hT hn hh' (by omega) hb hm (hmg.mono hle);rw [er,au];exact .mk hr
 ·rintro c1 ⟨g2,XU,hh2⟩;have hS:=hh2.inv.S;obtain ⟨i,hi⟩: ∃i:Nat,kC s v=(i:Int):=⟨(kC s v).toNat,by omega⟩
  rw [hi,Int.toNat_natCast] at hl;rw [hS,fp hs,au,hi];obtain ⟨r,er,hr⟩:=aiI hw hh2 (by omega) hl;rw [er,au,wrap64 (by omega) (by omega)];refine .mk ⟨by simp,by omega,?_⟩;obtain ⟨g3,hg3,hh3⟩:=hr;exact ⟨g3,(hg1.trans XU).trans hg3,hh3⟩
theorem aiL {F T:Nat}{s:ae}(hF:s.F=F)(hT:s.T=T)(hs:cC s){bad:List Bool}(hn:(bad.length:Int)=mS s)(Ud:bad.length<=30){want:List (List UInt8)}(hw:want.length=bad.length){g:Gh}{c:aj}{k:Nat}(hk:k<=1000)(h:sb F T s bad want g c k): aL (qJ c) λc'=> ∃k',sO F T s bad want g c' k':=by
 have hB:=h.inv.bY;have hS:=h.inv.S;have hl:=h.inv.len;have gm:=h.still;unfold qJ;rw [iq (by omega),au,if_pos (by rw [hB];omega)];obtain ⟨v,ev,v0,v1,_⟩:=aeV gm.inv;rw [hB] at ev⊢;rw [hB] at gm;rw [ev,au];have aeW:=h.say.ok.said.Hs;have Xl:=(dB s).1 hs;obtain ⟨j,hj⟩:=ab3 aeW (by unfold mS at hn;omega);obtain ⟨v',ev',q1,q2,q3,q4⟩:=aiJ (c:=⟨c.S,bad,c.Want,c.N,[]⟩) (by rw [hS];exact hs) (by rw [hS];exact hn) hj v0 (by omega);rw [ev',au];rw [show (⟨c.S,bad,c.Want,c.N,[]⟩:aj).S=s from hS] at q2 q3 q4;have arY:mS s<=100:=by unfold mS;omega
 by_cases Tg:100000<v'
 ·rw [if_pos Tg];exact .mk ⟨k,g,.refl g,gm⟩
 rw [if_neg Tg];refine aL.bd (GK (g:=g) (k:=k) ⟨g,.refl g,gm⟩ 1000000 (by omega) ?_) ?_
 ·intro i c' g' k' hle hb hh' LX;obtain ⟨r,er,hr⟩:=aeU hh' hb v';rw [er,au];exact .mk hr
 ·intro c1 KG;refine aL.loop (λp=> ∃at_:Nat,p.1=(at_:Int)/\at_<=400/\sO F T s bad want g p.2 (k+bad.length+at_ *(bad.length+1))) (λp=>401-p.1.toNat) ⟨0,rfl,by omega,by simpa using KG⟩ ?_;rintro ⟨n,c2⟩ ⟨at_,rfl,hle,XV⟩;have hmul:at_ *(bad.length+1)<=400 *31:=Nat.mul_le_mul (by omega) (by omega);refine (aiK hF hT hs hn Ud hw q3 q4 (by omega) XV).imp ?_;rintro (p|c') hx
  ·obtain ⟨p1,p2,p3⟩:=hx;refine ⟨⟨at_+1,p1,by omega,?_⟩,?_⟩
   ·rw [Nat.add_mul,Nat.one_mul];rw [show k+bad.length+(at_ *(bad.length+1)+(bad.length+1))=k+bad.length+at_ *(bad.length+1)+bad.length+1 by omega];exact p3
   ·show 401-p.1.toNat<401-((at_:Int)).toNat;rw [p1];omega
  ·simp only at hx;rw [hx];exact ⟨_,XV⟩
end Dn.S
