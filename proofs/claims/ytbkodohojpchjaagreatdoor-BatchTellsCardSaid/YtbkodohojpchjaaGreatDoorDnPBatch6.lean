import Derived.Test.YtbkodohojpchjaaGreatDoorDnPBatch3
import Derived.Test.YtbkodohojpchjaaGreatDoorDnPRealm13
/-
  Batches, the document's: their value, and the orders of a value. Conditions: none.
-/
set_option linter.unusedVariables false
set_option linter.unusedSimpArgs false
open List renaming length_append→aQ,length_singleton→sh,append_assoc→AI,length_map→AS,nil_append→AT,length_cons→BY,length_nil→IN
open Bool renaming false_eq_true→By,not_false→IT,not_true→No
open Go Dn
namespace Dn.S
theorem JN (o:ab):qf (vN o)=some (decide (ik o)):=by rw [OW,<-JM,M3]
theorem OX {b:List Int}(hb:b.length<=2^42){o:ab}(h:Df o)(hp:o.Path.length<=100000)(hv:o.Value.length<=100000):wG b (vN o)=some (b++jR o):=by
 have h1:=pD (uB o);have h2:=uf o.Path;have h4:(uB o).length=6:=rfl;have hL:Loop (pa (vN o)) (b,0)=some (b++iQ (uB o)):=by
  refine cm.eq (cm.count (λk=>(b++iQ ((uB o).take k),(k:Int))) (uB o).length (λ_=>True) (by simp [iQ]) trivial (λk hk _=> ?_) (λ_=> ?_))
  ·have h2:=pD ((uB o).take k);rw [List.length_take] at h2;unfold pa;rw [show ([(vN o).Client,(vN o).Seq,(vN o).Kind,(vN o).Version,(vN o).Session,(vN o).Span]:List Int)=uB o from rfl];simp only;rw [if_pos (by omega),dQ hk,OR (by rw [aQ];omega) (h _ (List.getElem_mem hk)),aL,wrap64 (by omega) (by omega)];refine .mk ⟨?_,trivial⟩;rw [List.take_add_one,List.getElem?_eq_getElem hk,FO,AI];simp [iQ]
  ·unfold pa;rw [show ([(vN o).Client,(vN o).Seq,(vN o).Kind,(vN o).Version,(vN o).Session,(vN o).Span]:List Int)=uB o from rfl];simp only;rw [if_neg (by omega),List.take_length];exact .mk rfl
 unfold wG;rw [hL,aL,show (vN o).Path=o.Path from rfl,show (vN o).Value=o.Value from rfl,Da (by rw [aQ];omega) (by omega),aL,Da (by rw [aQ,aQ];omega) (by omega),aL];unfold jR;simp only [AI]
theorem ZA {l:List ab}(hN: ∀o∈l,Df o)(hl:l.length<=100): ∀(todo done:List ab) (b:List Int),l=done++todo->b.length<=2^41+1200 *done.length-> Loop (gZ (l.map vN)) (b,(done.length:Int))=some (if∀o∈todo,ik o then .inl (b++Di todo) else .inr ([],1)):=by
 intro todo;induction todo with
 |nil=>intro done b e hb;refine cW ?_;unfold gZ;simp only;rw [if_neg (by rw [AS,e];simp),if_pos (by simp)];simp [Di]
 |cons o todo ih=>
  intro done b e hb;have hlen:l.length=done.length+todo.length+1:=by rw [e];simp;omega
  have cz:done.length<(l.map vN).length:=by rw [AS];omega
  have fK:(l.map vN)[done.length]=vN o:=by simp only [e,List.getElem_map];simp
  have b9:gZ (l.map vN) (b,(done.length:Int))=if ik o then some (.inl (b++jR o,((done++[o]).length:Int))) else some (.inr (.inr ([],1))):=by
   unfold gZ;simp only;rw [if_pos (by omega),dQ cz,fK,JN,aL];by_cases hm:ik o
   ·have hs:=hm.short;rw [decide_eq_true hm,if_neg (by simp),if_pos hm,dQ cz,fK,OX (by omega) (hN o (by rw [e];simp)) (by omega) (by omega),aL,wrap64 (by omega) (by omega)];simp
   ·rw [decide_eq_false hm,if_pos (by simp),if_neg hm]
  by_cases hm:ik o
  ·rw [if_pos hm] at b9;refine eQ b9 ?_;have h1:=Dg o;have hs:=hm.short;rw [ih (done++[o]) (b++jR o) (by rw [e];simp) (by rw [aQ,aQ,sh];omega)];have hq:(∀x∈o::todo,ik x)↔ ∀x∈todo,ik x:=by simp [hm]
   by_cases ht: ∀x∈todo,ik x
   ·rw [if_pos ht,if_pos (hq.2 ht),AI];rfl
   ·rw [if_neg ht,if_neg λh=>ht (hq.1 h)]
  ·rw [if_neg hm] at b9;rw [if_neg λh=>hm (h o (by simp))];exact cW b9
theorem OY {l:List ab}(hN: ∀o∈l,Df o)(hl:l.length<=100):mA (l.map vN)=gY l:=by
 rw [FQ hN hl];unfold mA;rw [AS];by_cases rb:10<l.length
 ·rw [if_pos (by omega),if_pos rb]
 rw [if_neg (by omega),if_neg rb];have hw:IntKind.wrap .u64 (l.length:Int)=((l.length:Nat):Int):=by rw [kw];omega
 have hp:=pB l.length;have hk:=jQ l.length;rw [hw,ue (by simp) (by omega),aL,AT];have:=ZA hN hl l [] (zW l.length) (by simp) (by simp;omega);rw [show ((([]:List ab).length:Nat):Int)=0 from rfl] at this;rw [this,aL];by_cases hm: ∀o∈l,ik o
 ·rw [if_pos hm,if_pos hm];simp only;rw [C8 ((xm _).app (FP l))];rfl
 ·rw [if_neg hm,if_neg hm]
theorem LD (many:Nat)(hm:many<=100): ∀(k:Nat) (b out:List Int),ju b->b.length<2^40->out.length+k=many-> cm (Loop (km (many:Int)) (b,out,(out.length:Int))) λw=>(∃l r,iD k b=some (l,r)/\w= .inl (r,out++l))\/(iD k b=none/\ ∃e,e≠0/\w= .inr ([],[],e)):=by
 intro k;induction k with
 |zero=>intro b out hb hl e;refine ⟨_,cW ?_,.inl ⟨[],b,rfl,rfl⟩⟩;unfold km;simp only;rw [if_neg (by omega),List.append_nil]
 |succ k ih=>
  intro b out hb hl e;have b9:km (many:Int) (b,out,(out.length:Int))=match lg b with|some (n,r)=>some (.inl (r,out++[n],((out++[n]).length:Int)))|none=>some (.inr (.inr ([],[],Db b))):=by
   unfold km;simp only;rw [if_pos (by omega),Ej hb hl,aL];cases lg b with
   |none=>simp only [lL,decide_false,IT,if_true]
   |some p=>simp only [decide_true,No,By,if_false];rw [if_pos (by simp only [BY,IN];omega),wrap64 (by omega) (by omega)];simp
  rw [iD];cases ht:lg b with
  |none=>rw [ht] at b9;exact ⟨_,cW b9,.inr ⟨rfl,_,lL b,rfl⟩⟩
  |some p=>
   obtain ⟨n,r⟩:=p;rw [ht] at b9;have hr:=vH ht;obtain ⟨w,ew,hw⟩:=ih r (out++[n]) (vE hb ht).2.2 (by omega) (by rw [aQ,sh];omega);refine ⟨w,eQ b9 ew,?_⟩;rcases hw with ⟨l,r',h1,h2⟩|⟨h1,e',h2,h3⟩
   ·exact .inl ⟨n::l,r',by simp only [h1],by rw [h2];simp⟩
   ·exact .inr ⟨by simp only [h1],e',h2,h3⟩
theorem LF {b:List Int}(hb:ju b)(hl:b.length<2^40):cm (sJ b) λr=>(∃o rest,cC b=some (o,rest)/\((ik o/\r=(vN o,rest,0))\/(¬ik o/\r.2.2≠0)))\/(cC b=none/\r.2.2≠0):=by
 unfold sJ wH cC;obtain ⟨w,ew,hw⟩:=LD 6 (by decide) 6 b [] hb hl rfl;rw [show ((([]:List Int).length:Nat):Int)=0 from rfl] at ew;rw [show ((6:Nat):Int)=6 from rfl] at ew;rw [ew,aL];rcases hw with ⟨l,r,h1,rfl⟩|⟨h1,e,he,rfl⟩;rotate_left
 ·rw [h1];simp only [aL];rw [if_pos (by simp [he])];exact .mk (.inr ⟨trivial,he⟩)
 obtain ⟨_,hlen,_,hbr,Qw⟩:=zn 6 hb h1;obtain ⟨c,s,k,v,se,sp,rfl⟩: ∃c s k v e p,l=[c,s,k,v,e,p]:=by
  match l,hlen with
  |[c,s,k,v,e,p],_=>exact ⟨c,s,k,v,e,p,rfl⟩
 rw [h1];simp only [aL,AT];rw [if_neg (by simp),show (100:Int)=((100:Nat):Int) from rfl,tc hbr (by omega) (by decide),aL];rcases yt r 100 with ⟨x,r2,t2,g2⟩|⟨t2,e,he,g2⟩;rotate_left
 ·rw [g2,t2,if_pos (by simp [he])];exact .mk (.inr ⟨rfl,he⟩)
 have lp:=(qF hbr t2).2.2;have om:=De t2;rw [g2,t2,if_neg (by simp),show (1000:Int)=((1000:Nat):Int) from rfl,tc lp (by omega) (by decide),aL];rcases yt r2 1000 with ⟨y,r3,t3,g3⟩|⟨t3,e,he,g3⟩;rotate_left
 ·simp only [t3];rw [g3,if_pos (by simp [he])];exact .mk (.inr ⟨trivial,he⟩)
 simp only [t3];rw [g3,if_neg (by simp)];have ix6: ∀(K:Int->Int->Int->Int->Int->Int->Option (aF×List Int×Int)),(ix [c,s,k,v,se,sp] 0 λy=>ix [c,s,k,v,se,sp] 1 λy1=>ix [c,s,k,v,se,sp] 2 λy2=>ix [c,s,k,v,se,sp] 3 λy3=>ix [c,s,k,v,se,sp] 4 λy4=>ix [c,s,k,v,se,sp] 5 λy5=>K y y1 y2 y3 y4 y5)=K c s k v se sp:=λK=>rfl;rw [ix6,show (⟨c,s,k,x,y,v,se,sp⟩:aF)=vN ⟨c,s,k,x,y,v,se,sp⟩ from rfl,JN,aL];by_cases hm:ik ⟨c,s,k,x,y,v,se,sp⟩
 ·rw [decide_eq_true hm,if_neg (by simp)];exact .mk (.inl ⟨_,_,rfl,.inl ⟨hm,rfl⟩⟩)
 ·rw [decide_eq_false hm,if_pos (by simp)];exact .mk (.inl ⟨_,_,rfl,.inr ⟨hm,by simp⟩⟩)
theorem ZB {rA:Int×List Int×Int}{n:Nat}(hn:rA.1=(n:Int))(agY:n<=10): ∀(m:Nat) (out:List aF) (r:List Int),ju r->r.length<2^40->out.length+m=n-> Loop (ib rA) (r,out,(out.length:Int))=some (match jg m r with|some (l,r')=> .inl (r',out++l.map vN)|none=> .inr ([],3)):=by
 intro m;induction m with
 |zero=>intro out r hb hl e;refine cW ?_;unfold ib;simp only;rw [if_neg (by rw [hn];omega)];simp [jg]
 |succ m ih=>
  intro out r hb hl e;obtain ⟨x,ex,hx⟩:=LF hb hl;have b9:ib rA (r,out,(out.length:Int))=if x.2.2=0 then some (.inl (x.2.1,out++[x.1],((out++[x.1]).length:Int))) else some (.inr (.inr ([],3))):=by
   unfold ib;simp only;rw [if_pos (by rw [hn];omega),ex,aL];by_cases he:x.2.2=0
   ·rw [if_neg (by simp [he]),if_pos he,if_pos (by simp only [BY,IN];omega),kw];congr 4;rw [aQ,sh];omega
   ·rw [if_pos (by simp [he]),if_neg he]
  rw [jg];rcases hx with ⟨o,rest,t0,⟨hm,rfl⟩|⟨hm,he⟩⟩|⟨t0,he⟩
  ·rw [if_pos rfl] at b9;refine eQ b9 ?_;obtain ⟨b2,l2⟩:=Dj hb t0;rw [ih (out++[vN o]) rest b2 (by omega) (by rw [aQ,sh];omega),t0];simp only;rw [if_pos hm];cases jg m rest with
   |none=>rfl
   |some p=>simp
  ·rw [if_neg he] at b9;rw [cW b9,t0];simp only;rw [if_neg hm]
  ·rw [if_neg he] at b9;rw [cW b9,t0]
theorem OZ (s:List UInt8)(hs:s.length<2^40):cm (ea s) λp=>mD s=some (p.1.map vN,p.2):=by
 rw [yv s hs];refine .mk ?_;have hb:=xp s;have hl:(gj s).length<2^40:=by rw [pC];exact hs
 unfold mD;rw [vG hb hl,aL];unfold TE;cases ht:fY (gj s) with
 |none=>simp only [lL,decide_false,IT,if_true,aL];rfl
 |some p=>
  obtain ⟨n,r⟩:=p;obtain ⟨e1,n1,b1⟩:=fp hb ht;have hr:=kz ht;simp only [decide_true,No,By,if_false,aL];by_cases rb:10<n
  ·rw [decide_eq_true (by omega),if_pos rfl,if_pos rb];rfl
  rw [decide_eq_false (by omega),if_neg (by simp),if_neg rb];have:=ZB (rA:=((n:Int),r,0)) (n:=n) rfl (by omega) n [] r b1 (Nat.lt_of_le_of_lt hr hl) (by simp);rw [show ((([]:List aF).length:Nat):Int)=0 from rfl] at this;rw [this,aL];cases jg n r with
  |none=>rfl
  |some q=>
   obtain ⟨l,r'⟩:=q;simp only [AT];cases r' with
   |nil=>rfl
   |cons y r'=>rw [if_pos (by simp),if_neg (by simp)];rfl
end Dn.S
