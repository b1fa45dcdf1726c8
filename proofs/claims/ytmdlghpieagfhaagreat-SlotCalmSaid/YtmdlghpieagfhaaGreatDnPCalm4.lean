import Derived.Test.YtmdlghpieagfhaaGreatDnPCalm3
/- Calm: what a node that hears comes. Conditions: none. -/
set_option linter.unusedVariables false
set_option linter.unusedSimpArgs false
open List renaming mem_singleton→cV,mem_append→sh,mem_append_left→AI,getElem?_eq_some_iff→AT,getElem?_eq_getElem→BY,append_nil→IT,length_append→No,mem_filter→aau,range→aaJ
open Bool renaming and_eq_true→OF
open Go Dn
namespace Dn.S
theorem ND {L:List aa}{a:aa}(hs:oh vk L){b:Int}{v:Int}(hv:a.View=v)(h: ∃e∈L,e.By=b/\e.View=v): ∃e∈(cL L a).1,e.By=b/\e.View=v:=by
 obtain ⟨e,he,h1,h2⟩:=h;unfold cL;split
 ·by_cases hb:e.By=a.By
  ·exact ⟨a,(sn hs).2 (.inl rfl),by rw [<-hb,h1],hv⟩
  ·exact ⟨e,(sn hs).2 (.inr ⟨he,hb⟩),h1,h2⟩
 ·exact ⟨e,he,h1,h2⟩
theorem Sh {L:List aa}{a:aa}(hs:oh vk L)(hm:tw a)(hle: ∀e∈L,e.By=a.By->e.View<=a.View): ∃e∈(cL L a).1,e.By=a.By/\e.View=a.View:=by
 unfold cL;by_cases ho:KD L a=false
 ·rw [if_pos ⟨hm,ho⟩];exact ⟨a,(sn hs).2 (.inl rfl),rfl,rfl⟩
 ·rw [if_neg (λh=>ho h.2)];have ho:KD L a=true:=by simpa using ho
  unfold KD at ho;obtain ⟨x,hx,hh⟩:=List.any_eq_true.1 ho;simp only [OF,decide_eq_true_eq] at hh;have:=hle x hx hh.1;exact ⟨x,hx,hh.1,by omega⟩
def su (bad:List Bool):List Nat:=(aaJ bad.length).filter λj=>decide (bad[j]? =some false)
theorem NE {bad:List Bool}{j:Nat}:j∈su bad↔bad[j]? =some false:=by unfold su;rw [aau,List.mem_range,decide_eq_true_eq];exact ⟨λh=>h.2,λh=>⟨(AT.1 h).1,h⟩⟩
theorem Hg (bad:List Bool):(su bad).Nodup:=List.nodup_range.filter _
theorem Yr (bad:List Bool):(su bad).length+bad.countP id=bad.length:=by
 have h: ∀k,k<=bad.length->((aaJ k).filter λj=>decide (bad[j]? =some false)).length+(bad.take k).countP id=k:=by
  intro k;induction k with
  |zero=>intro _;simp
  |succ k ih=>
   intro hk;have cJ:k<bad.length:=hk;have:=ih (by omega);rw [List.range_succ,List.filter_append,No,List.take_add_one,BY cJ,List.countP_append];have e2:((Option.some bad[k]).toList.countP id)=if bad[k] then 1 else 0:=by cases bad[k]<;>rfl
   rw [e2];simp only [List.filter_cons,List.filter_nil,BY cJ];cases bad[k]<;>simp<;>omega
 have:=h bad.length (Nat.le_refl _);rw [List.take_length] at this;exact this
theorem NF {bad:List Bool}{L:List aa}{v:Int}{y:List UInt8}(h: ∀j:Nat,bad[j]? =some false-> ∃e∈L,e.By=(j:Int)/\e.View=v/\e.Value=y):(su bad).length<=wJ L v y:=by
 have:(su bad).length<=((L.filter (ve v y)).map λe=>e.By.toNat).length:=by refine o8 (Hg bad) λj hj=> ?_;obtain ⟨e,he,h1,h2,h3⟩:=h j (NE.1 hj);exact List.mem_map.2 ⟨e,aau.2 ⟨he,by simp [ve,h2,h3]⟩,by rw [h1];rfl⟩
 rwa [List.length_map] at this
theorem Si {L:List aa}{b6:Int}{e:aa}(he:e∈L)(h1:1<=b6)(h2:b6<=(wJ L e.View e.Value:Int)): ∃z,ol L b6=some z:=by
 have:=yO L b6;cases hb:ol L b6 with
 |some z=>exact ⟨z,rfl⟩
 |none=>rw [hb] at this;have:=this e he;unfold qI at this;simp only [Bool.and_eq_false_iff,decide_eq_false_iff_not] at this;omega
def isG (bad:List Bool)(b:Int):Prop:= ∃j:Nat,b=(j:Int)/\bad[j]? =some false
theorem isG.range {s:ae}{bad:List Bool}(hn:(bad.length:Int)=kz s){b:Int}(h:isG bad b):0<=b/\b<kz s:=by obtain ⟨j,rfl,hj⟩:=h;have:=(AT.1 hj).1;omega
structure PM (s:ae) (bad:List Bool) (v:Int) (X:Option (List UInt8)) (m:ai):Prop where
 prop:m.Kind=1->m.cN=dG s v/\m.View=v/\X=some m.Value/\cW s v m.fC m.Value=some true/\m.Value.length<=6000
 UG:m.Kind=2->isG bad m.bM.By/\m.bM.View=v/\X=some m.bM.Value/\m.bM.Value.length<=6000
 sL:m.Kind=3->isG bad m.cN/\uN s m.Proof/\(mB m.Proof).1=v/\X=some (mB m.Proof).2.1
 Ws:m.Kind=4->CF s m.R/\m.R.fS=v
structure LN (s:ae) (bad:List Bool) (v:Int) (X:Option (List UInt8)) (hd P:List ai) (i:Nat) (n:ao):Prop where
 view:n.A.View=v
 UT:(∀m∈hd,m.Kind≠1)-> ¬(n.A.Has=true/\n.A.At=v)
 Sj:(∃m∈hd,m.Kind=1)-> ∃m∈P,m.Kind=2/\m.bM.By=(i:Int)
 vot: ∀e∈n.A.bT.L,X=some e.Value
 Sk: ∀m∈hd,m.Kind=2-> ∃e∈n.A.bT.L,e.By=m.bM.By/\e.View=v
 sL:v<=(mB n.A.Proof).1-> ∃m∈P,m.Kind=3/\m.cN=(i:Int)
 Sl:(∀j:Nat,bad[j]? =some false-> ∃m∈hd,m.Kind=2/\m.bM.By=(j:Int))->v<=(mB n.A.Proof).1
 Hf: ∀e∈n.L.aR.L,isG bad e.By->e.View<=v/\(e.View=v->X=some e.Value)
 cH:n.L.bw=false-> ∀m∈hd,m.Kind=3-> ∃e∈n.L.aR.L,e.By=m.cN/\e.View=v
 don:(∀j:Nat,bad[j]? =some false-> ∃m∈hd,m.Kind=3/\m.cN=(j:Int))->n.L.bw=true
 Bg:(i:Int)=dG s v-> ∀m∈hd,m.Kind=4-> ∃r∈n.dq,r.By=m.R.By
 CG: ∀r∈n.dq,CF s r/\r.fS=v
theorem LN.more {s:ae}{bad:List Bool}{v:Int} {X X':Option (List UInt8)} {hd P P':List ai}{i:Nat}{n:ao}(h:LN s bad v X hd P i n)(hX: ∀x,X=some x->X'=some x)(hP: ∀m∈P,m∈P'):LN s bad v X' hd P' i n:=⟨h.view,h.UT,λq=>by obtain ⟨m,h1,h2⟩:=h.Sj q;exact ⟨m,hP m h1,h2⟩,λe he=>hX _ (h.vot e he),h.Sk,λq=>by obtain ⟨m,h1,h2⟩:=h.sL q;exact ⟨m,hP m h1,h2⟩,h.Sl,λe he hg=>⟨(h.Hf e he hg).1,λq=>hX _ ((h.Hf e he hg).2 q)⟩,h.cH,h.don,h.Bg,h.CG⟩
theorem PM.more {s:ae}{bad:List Bool}{v:Int} {X X':Option (List UInt8)}{m:ai}(h:PM s bad v X m)(hX: ∀x,X=some x->X'=some x):PM s bad v X' m:=⟨λk=>by obtain ⟨a,b,c,d⟩:=h.prop k;exact ⟨a,b,hX _ c,d⟩,λk=>by obtain ⟨a,b,c,d⟩:=h.UG k;exact ⟨a,b,hX _ c,d⟩,λk=>by obtain ⟨a,b,c,d⟩:=h.sL k;exact ⟨a,b,c,hX _ d⟩,h.Ws⟩
def K3 (v:Int)(n:ao):Nat:=(if n.A.Has=true/\n.A.At=v then 0 else 1)+(if v<=(mB n.A.Proof).1 then 0 else 1)
def K4 (v:Int)(n:ao):Nat:=K3 v n+(if n.L.bw=true then 0 else 1)
structure sv (s:ae) (bad:List Bool) (v:Int) (X:Option (List UInt8)) (hd P:List ai) (i:Nat) (n:ao) (m:ai) (x:ao×List ai):Prop where
 ln:LN s bad v X (hd++[m]) (P++x.2) i x.1
 pm: ∀y∈x.2,PM s bad v X y
 pot:x.2.length+K4 v x.1<=K4 v n
 led:x.1.et=n.et
theorem pm5 {s:ae}{bad:List Bool}{v:Int}{X:Option (List UInt8)}{i:Int}{y:List UInt8}:PM s bad v X (Bf i y):=⟨λk=>by simp [Bf] at k,λk=>by simp [Bf] at k,λk=>by simp [Bf] at k,λk=>by simp [Bf] at k⟩
theorem sv.fin {s:ae}{bad:List Bool}{v:Int}{X:Option (List UInt8)}{hd P out:List ai}{i:Nat} {n n':ao}{m:ai}(h:LN s bad v X (hd++[m]) (P++out) i n')(hp: ∀y∈out,PM s bad v X y)(hA:out.length+K3 v n'<=K3 v n) (hd':n.L.bw=true->n'.L.bw=true)(hl:n'.et=n.et): sv s bad v X hd P i n m (n',lG (i:Int) n.L.bw n' out):=by
 unfold lG;by_cases c:(n'.L.bw&&!n.L.bw)=true
 ·rw [if_pos c];simp only [OF,Bool.not_eq_true'] at c;refine ⟨h.more (λ_ q=>q) λy hy=> ?_,λy hy=> ?_,?_,hl⟩
  ·rcases sh.1 hy with hy|hy
   ·exact AI _ hy
   ·exact List.mem_append_right _ (AI _ hy)
  ·rcases sh.1 hy with hy|hy
   ·exact hp y hy
   ·rw [cV.1 hy];exact pm5
  ·simp only [No,List.length_singleton,K4,c.1,c.2,if_true,Bool.false_eq_true,if_false];omega
 ·rw [if_neg c];refine ⟨h,hp,?_,hl⟩;simp only [K4];cases q1:n.L.bw with
  |true=>rw [hd' q1];simp;omega
  |false=>
   cases q2:n'.L.bw with
   |true=>rw [q1,q2] at c;simp at c
   |false=>simp;omega
theorem jZ {hd:List ai}{m:ai}{Q:ai->Prop}(h: ∃y∈hd++[m],Q y)(hm: ¬Q m): ∃y∈hd,Q y:=by
 obtain ⟨y,hy,hq⟩:=h;rcases sh.1 hy with hy|hy
 ·exact ⟨y,hy,hq⟩
 ·rw [cV.1 hy] at hq;exact absurd hq hm
section
variable {s:ae}{bad:List Bool}{v:Int}{X:Option (List UInt8)}{hd P:List ai}{i:Nat}{n:ao}{m:ai}{k:Nat}
theorem LN.same {n':ao}(h:LN s bad v X hd P i n)(hA:n'.A=n.A)(hC:n'.L.aR=n.L.aR)(hD:n.L.bw=true->n'.L.bw=true)(hG:n'.dq=n.dq)(k1:m.Kind≠1)(k2:m.Kind≠2)(k3:m.Kind≠3)(k4:m.Kind≠4\/(i:Int)≠dG s v):LN s bad v X (hd++[m]) P i n':=by
 refine ⟨by rw [hA];exact h.view,λq=>by rw [hA];exact h.UT λy hy=>q y (AI _ hy),λq=>h.Sj (jZ q k1),by rw [hA];exact h.vot,λy hy ky=> ?_,by rw [hA];exact h.sL,λq=>by rw [hA];exact h.Sl λj hj=>jZ (q j hj) λc=>k2 c.1,by rw [hC];exact h.Hf,λq y hy ky=> ?_,λq=>hD (h.don λj hj=>jZ (q j hj) λc=>k3 c.1),λq y hy ky=> ?_,by rw [hG];exact h.CG⟩
 ·rw [hA];rcases sh.1 hy with hy|hy
  ·exact h.Sk y hy ky
  ·rw [cV.1 hy] at ky;exact absurd ky k2
 ·rw [hC];have hd0:n.L.bw=false:=by
   cases hq:n.L.bw with
   |false=>rfl
   |true=>rw [hD hq] at q;cases q
  rcases sh.1 hy with hy|hy
  ·exact h.cH hd0 y hy ky
  ·rw [cV.1 hy] at ky;exact absurd ky k3
 ·rw [hG];rcases sh.1 hy with hy|hy
  ·exact h.Bg q y hy ky
  ·rw [cV.1 hy] at ky;rcases k4 with k4|k4
   ·exact absurd ky k4
   ·exact absurd q k4
theorem UU (hI:dP s (i:Int) n k)(hk:k<=1000000)(h:LN s bad v X hd P i n)(k1:m.Kind≠1)(k2:m.Kind≠2)(k3:m.Kind≠3)(k4:m.Kind≠4): ∃x,bq s (i:Int) n m=some x/\sv s bad v X hd P i n m x:=by
 obtain ⟨q1,q2,q3⟩:=hI.dU.E4;by_cases k5:m.Kind=5
 ·have a1:=Pt hI.dU q3 m.cN m.Value;have hT:(uR n.L m.cN m.Value).aR=n.L.aR/\(n.L.bw=true->(uR n.L m.cN m.Value).bw=true):=by
   unfold uR;by_cases hd:lF n.L ⟨m.cN,0,m.Value⟩
   ·rw [if_pos hd];exact ⟨rfl,id⟩
   ·rw [if_neg hd];refine ⟨(rf _ _ _).2.1,λq=> ?_⟩;rw [(fY hd).1] at q;cases q
  refine ⟨_,?_,sv.fin (n':=⟨n.A,uR n.L m.cN m.Value,n.dq,n.et⟩) (out:=[]) (by rw [IT];exact h.same rfl hT.1 hT.2 rfl k1 k2 k3 (.inl k4)) (by simp) (by simp [K3]) hT.2 rfl⟩;unfold bq;rw [if_neg k1,if_neg k2,if_neg k3,if_neg k4,if_pos k5,a1];simp only [au];rw [jY _ _ _ (by simp)];rfl
 ·refine ⟨_,?_,sv.fin (n':=n) (out:=[]) (by rw [IT];exact h.same rfl rfl id rfl k1 k2 k3 (.inl k4)) (by simp) (by simp) id rfl⟩;unfold bq;rw [if_neg k1,if_neg k2,if_neg k3,if_neg k4,if_neg k5];simp only [au];rw [jY _ _ _ (by simp)];rfl
theorem V8 {L:List ab}{a x:ab}(h:x=a\/x∈L):x∈Kz rk L a:=by
 unfold Kz;simp only [sh,cV];rcases h with rfl|h
 ·exact .inl (.inr rfl)
 ·rw [<-List.take_append_drop (qH rk L (rk a)) L] at h;rcases sh.1 h with h|h
  ·exact .inl (.inl h)
  ·exact .inr h
theorem acM (hI:dP s (i:Int) n k)(hk:k<=1000000)(h:LN s bad v X hd P i n)(qB:qq m)(hm:PM s bad v X m)(k4:m.Kind=4): ∃x,bq s (i:Int) n m=some x/\sv s bad v X hd P i n m x:=by
 obtain ⟨ok,a1,Qp⟩:=acK hI hk qB.r;obtain ⟨r1,r2⟩:=hm.Ws k4;have k1:m.Kind≠1:=by omega
 have k2:m.Kind≠2:=by omega
 have k3:m.Kind≠3:=by omega
 refine ⟨_,?_,sv.fin (n':=⟨n.A,n.L,wL n m.R ok,n.et⟩) (out:=[]) ?_ (by simp) (by simp [K3]) id rfl⟩
 ·unfold bq;rw [if_neg k1,if_neg k2,if_neg k3,if_pos k4,a1];simp only [au];rw [jY _ _ _ (by simp)];rfl
 rw [IT];have hold: ∀r∈n.dq,r∈wL n m.R ok:=by
  intro r hr;unfold wL;split
  ·exact V8 (.inr hr)
  ·exact hr
 have ku: ∀r∈wL n m.R ok,CF s r/\r.fS=v:=by
  intro r hr;unfold wL at hr;split at hr
  ·rcases UE hr with rfl|hr
   ·exact ⟨r1,r2⟩
   ·exact h.CG r hr
  ·exact h.CG r hr
 refine ⟨h.view,λq=>h.UT λy hy=>q y (AI _ hy),λq=>h.Sj (jZ q k1),h.vot,λy hy ky=> ?_,h.sL,λq=>h.Sl λj hj=>jZ (q j hj) λc=>k2 c.1,h.Hf,λq y hy ky=> ?_,λq=>h.don λj hj=>jZ (q j hj) λc=>k3 c.1,λq y hy ky=> ?_,ku⟩
 ·rcases sh.1 hy with hy|hy
  ·exact h.Sk y hy ky
  ·rw [cV.1 hy] at ky;exact absurd ky k2
 ·rcases sh.1 hy with hy|hy
  ·exact h.cH q y hy ky
  ·rw [cV.1 hy] at ky;exact absurd ky k3
 ·rcases sh.1 hy with hy|hy
  ·obtain ⟨r,hr,hb⟩:=h.Bg q y hy ky;exact ⟨r,hold r hr,hb⟩
  ·rw [cV.1 hy];have ht:ok=true:=Qp.2 ⟨by rw [h.view,r2],by rw [r2];exact q.symm,r1.may hI.sz⟩;cases hh:nR rk n.dq m.R.By with
   |true=>obtain ⟨e,he,h3⟩:=xB.1 hh;exact ⟨e,hold e he,h3⟩
   |false=>refine ⟨m.R,?_,rfl⟩;show m.R∈wL n m.R ok;unfold wL;rw [if_pos ⟨ht,hh⟩];exact V8 (.inl rfl)
end
end Dn.S
