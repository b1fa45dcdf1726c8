import Derived.Test.YtmdlghpieagfhaaGreatDnPCalm5
/- Calm: turns. Conditions: none. -/
set_option linter.unusedVariables false
set_option linter.unusedSimpArgs false
open List renaming take_append_of_le_length→cV,length_append→AI,getElem?_eq_getElem→AT,take_of_length_le→BY,getElem?_set_self→IT,getElem?_set_ne→No,mem_append_left→OF,getElem_mem→aau,mem_append→aaJ,map_cons→aaK
open Option.some renaming inj→sh,injEq→aaP
open Go Dn
namespace Dn.S
def Ma (v:Int)(N:List ao):Nat:=(N.map (K4 v)).sum
theorem Sn {v:Int} {n':ao}: ∀{N:List ao} {i:Nat} {n:ao},N[i]? =some n->Ma v (N.set i n')+K4 v n=Ma v N+K4 v n':=by
 intro N;induction N with
 |nil=>intro i n h;simp at h
 |cons a N ih=>
  intro i n h;cases i with
  |zero=>simp only [List.getElem?_cons_zero,aaP] at h;subst h;simp only [List.set_cons_zero,Ma,aaK,List.sum_cons];omega
  |succ i=>rw [List.getElem?_cons_succ] at h;have:=ih h;simp only [List.set_cons_succ,Ma,aaK,List.sum_cons] at this⊢;omega
structure LS (s:ae) (bad:List Bool) (v:Int) (X:Option (List UInt8)) (h:Nat->Nat) (c:aj):Prop where
 nodes: ∀(j:Nat) n,bad[j]? =some false->c.N[j]? =some n->LN s bad v X (c.aC.take (h j)) c.aC j n
 lI: ∀m∈c.aC,PM s bad v X m
 acQ: ∀j:Nat,bad[j]? =some false-> ∃m∈c.aC,m.Kind=4/\m.R.By=(j:Int)
 afz: ∀(j:Nat) n,(j:Int)=dG s v->c.N[j]? =some n->(X=none->n.et<v)/\ ∀x,X=some x->v<=n.et/\ ∃m∈c.aC,m.Kind=1
 pot:c.aC.length+Ma v c.N+(if X.isSome=true then 0 else 1)<=400
 hle: ∀j:Nat,bad[j]? =some false->h j<=c.aC.length
theorem LS.heard {s:ae}{bad:List Bool}{v:Int}{X:Option (List UInt8)} {h h':Nat->Nat}{c:aj}(hL:LS s bad v X h c)(he: ∀j:Nat,bad[j]? =some false->h' j=h j):LS s bad v X h' c:=⟨λj n hb hn=>by rw [he j hb];exact hL.nodes j n hb hn,hL.lI,hL.acQ,hL.afz,hL.pot,λj hb=>by rw [he j hb];exact hL.hle j hb⟩
section
variable {F T:Nat}{s:ae}{bad:List Bool}{want:List (List UInt8)}{g:Gh}{c:aj}{k:Nat}{v:Int}{X:Option (List UInt8)}{h:Nat->Nat}
theorem Yu (hn:(bad.length:Int)=kz s)(hG:2 *s.F+s.T+1<=((su bad).length:Int))(hv:0<v/\v<=100000)(hH:ng F T s bad want g c k)(hk:k<=1000000)(hL:LS s bad v X h c){i:Nat}(hb:bad[i]? =some false){m:ai}(hm:c.aC[h i]? =some m): ∃x:ao×List ai,cD c (i:Int) m=some ((),kl c i x.1 x.2)/\LS s bad v X (λj=>if j=i then h i+1 else h j) (kl c i x.1 x.2)/\(kl c i x.1 x.2).aC=c.aC++x.2:=by
 have hi:=rK hH.inv hb;have Mi:c.N[i]? =some c.N[i]:=AT hi;have E5:=hH.inv.nodes i _ Mi;obtain ⟨hml,Tf⟩:=List.getElem?_eq_some_iff.1 hm;have kG:m∈c.aC:=by rw [<-Tf];exact aau hml
 obtain ⟨x,ex,hx⟩:=acP E5 hk hv hn hG hb (hL.nodes i _ hb Mi) (hH.inv.short m kG) (hL.lI m kG);have hp:=hx.pot;have N5:=Sn (v:=v) (n':=x.1) Mi;have acR:=hL.pot;have sO:c.aC.length+x.2.length<=400:=by omega
 have P9:x.2.take (400-c.aC.length)=x.2:=BY (by omega);have qu:(kl c i x.1 x.2).aC=c.aC++x.2:=by show c.aC++x.2.take (400-c.aC.length)=_;rw [P9]
 refine ⟨x,?_,?_,qu⟩
 ·rw [<-hH.inv.S] at ex;unfold cD;rw [bB hi,ex,au,yV hi _ hH.inv.lI (by omega),au]
 have za:(kl c i x.1 x.2).N[i]? =some x.1:=IT hi;have zt: ∀b,b≠i->(kl c i x.1 x.2).N[b]? =c.N[b]? :=λb hb=>No (λe=>hb e.symm);have iy: ∀y∈c.aC,y∈c.aC++x.2:=λy hy=>OF _ hy;refine ⟨λj n Dr zO=> ?_,λy hy=> ?_,λj Dr=> ?_,λj n hj zO=> ?_,?_,λj Dr=> ?_⟩
 ·rw [qu];by_cases vF:j=i
  ·subst vF;rw [za] at zO;obtain rfl:=sh zO;rw [if_pos rfl,cV (by omega),List.take_add_one,hm];exact hx.ln
  ·rw [zt j vF] at zO;rw [if_neg vF,cV (hL.hle j Dr)];exact (hL.nodes j n Dr zO).more (λ_ q=>q) iy
 ·rw [qu] at hy;rcases aaJ.1 hy with hy|hy
  ·exact hL.lI y hy
  ·exact hx.pm y hy
 ·obtain ⟨y,h1,h2⟩:=hL.acQ j Dr;exact ⟨y,by rw [qu];exact iy y h1,h2⟩
 ·have YI: ∀n0,c.N[j]? =some n0->n.et=n0.et->(X=none->n.et<v)/\ ∀x',X=some x'->v<=n.et/\ ∃m∈(kl c i x.1 x.2).aC,m.Kind=1:=by intro n0 h0 hl;obtain ⟨q1,q2⟩:=hL.afz j n0 hj h0;rw [hl];exact ⟨q1,λx' Hl=>⟨(q2 x' Hl).1,by obtain ⟨y,h1,h2⟩:=(q2 x' Hl).2;exact ⟨y,by rw [qu];exact iy y h1,h2⟩⟩⟩
  by_cases vF:j=i
  ·subst vF;rw [za] at zO;obtain rfl:=sh zO;exact YI _ Mi hx.led
  ·rw [zt j vF] at zO;exact YI n zO rfl
 ·rw [qu,AI];show _+Ma v (c.N.set i x.1)+_<=400;omega
 ·rw [qu,AI];by_cases vF:j=i
  ·rw [if_pos vF];omega
  ·rw [if_neg vF];have:=hL.hle j Dr;omega
def Due (s:ae)(v:Int)(X:Option (List UInt8))(c:aj):Prop:= ∀(j:Nat) n,(j:Int)=dG s v->c.N[j]? =some n->2 *s.F+2 *s.T+1<=(n.dq.length:Int)->X.isSome=true
theorem ajx (hws: ∀x∈want,x.length<=6000)(hwl:want.length=bad.length)(hv:0<v/\v<=100000)(hH:ng F T s bad want g c k)(hk:k<=1000000)(hL:LS s bad v X h c){i:Nat}(hb:bad[i]? =some false)(hil:(i:Int)=dG s v): ∃(X':Option (List UInt8)) (x:ao×List ai),(∀y,X=some y->X'=some y)/\cX c (i:Int)=some ((),kl c i x.1 x.2)/\LS s bad v X' h (kl c i x.1 x.2)/\(kl c i x.1 x.2).aC=c.aC++x.2/\Due s v X' (kl c i x.1 x.2):=by
 have hi:=rK hH.inv hb;have Mi:c.N[i]? =some c.N[i]:=AT hi;have E5:=hH.inv.nodes i _ Mi;have hLN:=hL.nodes i _ hb Mi;have Bh:=hLN.view;have hiw:i<c.Want.length:=by have:=hH.inv.len;rw [hH.inv.Want];omega
 have hwm:c.Want[i].length<=6000:=hws _ (by rw [<-hH.inv.Want];exact aau hiw);obtain ⟨q1,q2⟩:=hL.afz i _ hil Mi;have acR:=hL.pot;have Wa: ∀x:ao×List ai,cF s (i:Int) c.N[i] c.Want[i]=some x->x.2.length<=1000->cX c (i:Int)=some ((),kl c i x.1 x.2):=by intro x ex hx;rw [<-hH.inv.S] at ex;unfold cX;rw [bB hi,bB hiw,ex,au,yV hi _ hH.inv.lI hx,au]
 have za: ∀n' out,(kl c i n' out).N[i]? =some n':=λn' out=>IT hi;have zt: ∀n' out b,b≠i->(kl c i n' out).N[b]? =c.N[b]? :=λn' out b hb=>No (λe=>hb e.symm);have QE: ∀j:Nat,(j:Int)=dG s v->j=i:=λj hj=>by omega
 have B3:(X.isSome=true\/(c.N[i].dq.length:Int)<2 *s.F+2 *s.T+1)-> ∃(X':Option (List UInt8)) (x:ao×List ai),(∀y,X=some y->X'=some y)/\cX c (i:Int)=some ((),kl c i x.1 x.2)/\LS s bad v X' h (kl c i x.1 x.2)/\(kl c i x.1 x.2).aC=c.aC++x.2/\Due s v X' (kl c i x.1 x.2):=by
  intro hc;have je:kl c i c.N[i] []=c:=by unfold kl;rw [List.set_getElem_self];simp
  refine ⟨X,(c.N[i],[]),λ_ q=>q,Wa _ (acL E5 _ ?_) (by simp),by rw [je];exact hL,by rw [je];simp,?_⟩
  ·rw [Bh];rcases hc with hc|hc
   ·obtain ⟨x,hx⟩:=Option.isSome_iff_exists.1 hc;exact .inr (.inl (q2 x hx).1)
   ·exact .inr (.inr ⟨hv.1,hc⟩)
  ·rw [je];intro j n hj zO hl;have:=QE j hj;subst this;rw [Mi] at zO;obtain rfl:=sh zO;rcases hc with hc|hc
   ·exact hc
   ·omega
 cases hX:X with
 |some x=>rw [<-hX];exact B3 (.inl (by rw [hX];rfl))
 |none=>
  by_cases an6:(c.N[i].dq.length:Int)<2 *s.F+2 *s.T+1
  ·rw [<-hX];exact B3 (.inr an6)
  obtain ⟨x,gJ,e1,e2,e3⟩:=Yq E5 hk hwm (by rw [Bh];exact hil.symm) (by rw [Bh];exact q1 hX) (by rw [Bh];exact hv.1) (by omega) (λr hr=>by rw [Bh];exact hLN.CG r hr);rw [Bh] at e1 e2;have sO:c.aC.length+1<=400:=by rw [hX] at acR;simp at acR;omega
  have P9:[mA (i:Int) v x gJ].take (400-c.aC.length)=[mA (i:Int) v x gJ]:=BY (by simp;omega);have qu:(kl c i ⟨c.N[i].A,c.N[i].L,c.N[i].dq,v⟩ [mA (i:Int) v x gJ]).aC=c.aC++[mA (i:Int) v x gJ]:=by show c.aC++List.take (400-c.aC.length) _=_;rw [P9]
  have hXm: ∀y,X=some y->some x=some y:=λy hy=>by rw [hX] at hy;cases hy
  have iy: ∀y∈c.aC,y∈c.aC++[mA (i:Int) v x gJ]:=λy hy=>OF _ hy;have N5:=Sn (v:=v) (n':=⟨c.N[i].A,c.N[i].L,c.N[i].dq,v⟩) Mi;have hpn:K4 v ⟨c.N[i].A,c.N[i].L,c.N[i].dq,v⟩=K4 v c.N[i]:=rfl;refine ⟨some x,(⟨c.N[i].A,c.N[i].L,c.N[i].dq,v⟩,[mA (i:Int) v x gJ]),λy hy=>(by cases hy),Wa _ e1 (by simp),⟨λj n Dr zO=> ?_,λy hy=> ?_,λj Dr=> ?_,λj n hj zO=> ?_,?_,λj Dr=> ?_⟩,qu,λ_ _ _ _ _=>rfl⟩
  ·rw [qu,cV (hL.hle j Dr)];by_cases vF:j=i
   ·subst vF;rw [za] at zO;obtain rfl:=sh zO;have:=hLN.more hXm iy;exact ⟨this.view,this.UT,this.Sj,this.vot,this.Sk,this.sL,this.Sl,this.Hf,this.cH,this.don,this.Bg,this.CG⟩
   ·rw [zt _ _ j vF] at zO;exact (hL.nodes j n Dr zO).more hXm iy
  ·rw [qu] at hy;rcases aaJ.1 hy with hy|hy
   ·exact (hL.lI y hy).more hXm
   ·rw [List.mem_singleton.1 hy];exact ⟨λ_=>⟨hil,rfl,rfl,e2,e3⟩,λk=>by simp [mA] at k,λk=>by simp [mA] at k,λk=>by simp [mA] at k⟩
  ·obtain ⟨y,h1,h2⟩:=hL.acQ j Dr;exact ⟨y,by rw [qu];exact iy y h1,h2⟩
  ·have:=QE j hj;subst this;rw [za] at zO;obtain rfl:=sh zO;exact ⟨λq=>(by cases q),λ_ _=>⟨Int.le_refl _,mA (j:Int) v x gJ,by rw [qu];exact List.mem_append_right _ (by simp),rfl⟩⟩
  ·rw [qu,AI];show _+Ma v (c.N.set i ⟨c.N[i].A,c.N[i].L,c.N[i].dq,v⟩)+_<=400;rw [hX] at acR;simp only [Option.isSome_none,Bool.false_eq_true,if_false] at acR;simp only [List.length_singleton,Option.isSome_some,if_true];omega
  ·rw [qu,AI];have:=hL.hle j Dr;omega
end
end Dn.S
