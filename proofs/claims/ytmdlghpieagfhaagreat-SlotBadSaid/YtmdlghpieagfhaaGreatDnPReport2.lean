import Derived.Test.YtmdlghpieagfhaaGreatDnPReport
import Derived.Test.YtmdlghpieagfhaaGreatDnC
/-
  Certificates: what binds a leader. Conditions: none.
-/
set_option linter.unusedVariables false
set_option linter.unusedSimpArgs false
open Bool renaming false_eq_true→eJ,and_eq_true→IN,and_assoc→aai,false_and→aas,true_and→aaD
open List renaming map_cons→sh,mem_cons→AI,mem_map→AT,take_length→BY,getElem?_cons_succ→IS,filter_append→OF,length_cons→aaa,nodup_cons→aah
open Nat renaming add_zero→IT
open Prod.mk renaming injEq→No
open Go Dn
namespace Dn.S
def y8 (b:Int×List UInt8)(r:ab):Int×List UInt8:=if (Mi r.Proof).2.2=true/\b.1<(Mi r.Proof).1 then ((Mi r.Proof).1,(Mi r.Proof).2.1) else b
def fE (L:List ab):Int×List UInt8:=L.foldl y8 (-1,[])
theorem Y9 {b:Int×List UInt8}{r:ab}(h: -1<=b.1): -1<=(y8 b r).1:=by
 unfold y8;split
 ·rename_i h2;simp only;omega
 ·exact h
theorem abC (L:List ab): ∀b:Int×List UInt8,-1<=b.1-> -1<=(L.foldl y8 b).1:=by
 induction L with
 |nil=>intro b h;exact h
 |cons r L ih=>intro b h;exact ih _ (Y9 h)
theorem afv (L:List ab)(hl:L.length<2^32):Loop (mW L) ((-1),([]:List UInt8),0)=some (fE L):=by
 refine aL.eq (aL.count (λk=>(((L.take k).foldl y8 (-1,[])).1,((L.take k).foldl y8 (-1,[])).2,(k:Int))) L.length (λ_=>True) (by simp) trivial (λk hk _=> ?_) (λ_=> ?_))
 ·unfold mW;have OU:=abC (L.take k) (-1,[]) (by simp);simp only [show ((k:Int)<(L.length:Int)) by omega,if_true,bh hk,Mj,ap];rw [wrap64 (by omega) (by omega),oV hk];generalize (L.take k).foldl y8 (-1,[])=b at OU;unfold y8;by_cases c:b.1<(Mi L[k].Proof).1
  ·rw [if_pos c];have jD:0<L[k].Proof.length:=by refine Nat.pos_of_ne_zero λh0=> ?_;rw [List.eq_nil_of_length_eq_zero h0] at c;simp only [Mi] at c;omega
   rw [jT jD];have h2:(Mi L[k].Proof).2.2=true/\(Mi L[k].Proof).2.1=L[k].Proof[0].Value:=by
    revert jD;cases L[k].Proof with
    |nil=>intro h;simp at h
    |cons x y=>intro h;exact ⟨rfl,rfl⟩
   rw [if_pos ⟨h2.1,c⟩];simp only [ap,h2.2];exact .mk ⟨rfl,trivial⟩
  ·rw [if_neg c,if_neg (λh=>c h.2)];simp only [ap];exact .mk ⟨rfl,trivial⟩
 ·unfold mW;simp only [show¬((L.length:Int)<(L.length:Int)) by omega,if_false,BY];exact .mk rfl
theorem Za (L:List ab)(hl:L.length<2^32):Loop (vC L) ((-1),([]:List UInt8),0)=some (fE L):=by
 refine aL.eq (aL.count (λk=>(((L.take k).foldl y8 (-1,[])).1,((L.take k).foldl y8 (-1,[])).2,(k:Int))) L.length (λ_=>True) (by simp) trivial (λk hk _=> ?_) (λ_=> ?_))
 ·unfold vC;simp only [show ((k:Int)<(L.length:Int)) by omega,if_true,bh hk,Qe,ap];rw [wrap64 (by omega) (by omega),oV hk];generalize (L.take k).foldl y8 (-1,[])=b;unfold y8;cases h2:(Mi L[k].Proof).2.2 with
  |false=>simp only [eJ,if_false,ap,false_and];exact .mk ⟨rfl,trivial⟩
  |true=>
   by_cases c:b.1<(Mi L[k].Proof).1
   ·simp only [if_true,c,decide_true,ap,true_and];exact .mk ⟨rfl,trivial⟩
   ·simp only [if_true,c,decide_false,ap,true_and,eJ,if_false];exact .mk ⟨rfl,trivial⟩
 ·unfold vC;simp only [show¬((L.length:Int)<(L.length:Int)) by omega,if_false,BY];exact .mk rfl
def BG (c:Int)(x:List UInt8)(r:ab):Bool:=r.Has&&(decide (c<r.View)&&decide (r.Value=x))
def nn (c:Int)(L:List ab)(x:List UInt8):Nat:=(L.filter (BG c x)).length
theorem Qi {c:Int}{x y:List UInt8}(h:x≠y)(L:List ab):nn c L x+nn c L y<=L.length:=by
 unfold nn;induction L with
 |nil=>simp
 |cons r L ih=>
  simp only [List.filter_cons,aaa];have: ¬(BG c x r=true/\BG c y r=true):=by rintro ⟨h1,h2⟩;simp only [BG,IN,decide_eq_true_eq] at h1 h2;exact h (h1.2.2.symm.trans h2.2.2)
  cases h1:BG c x r<;>cases h2:BG c y r<;>simp [h1,h2] at this⊢ <;>omega
def mc (p:List UInt8×Int):MV:= .ej [.agg [.s p.1],.i .i64 p.2]
def V4:List (List UInt8×Int)->List UInt8->List (List UInt8×Int)
 |[],x=>[(x,1)]
 |p::r,x=>if p.1=x then (p.1,p.2+1)::r else p::V4 r x
theorem abD (E:List (List UInt8×Int))(x:List UInt8)(h: ∀p∈E,0<=p.2/\p.2<2^40): tM (nY (E.map mc) [.s x] (.i .i64 0)) (cI (E.map mc) [.s x]) (.i .i64 (IntKind.wrap .i64 (n8 (E.map mc) [.s x]+1)))=(V4 E x).map mc:=by
 induction E with
 |nil=>simp only [List.map_nil,cI,nY,List.length_nil,eH,decide_true,cond_true,List.nil_append,n8,List.getElem?_nil,V4,sh,mc];rw [wrap64 (by omega) (by omega)];rfl
 |cons p E ih=>
  have ih:=ih λq hq=>h q (List.mem_cons_of_mem _ hq);have hk:kv (mc p)=[.s p.1]:=rfl;have he:eO (kv (mc p)) [.s x]=decide (p.1=x):=by rw [hk];simp [eO,EU]
  simp only [sh,V4];by_cases hx:p.1=x
  ·have hb:=h p (by simp);have hm:cI (mc p::E.map mc) [.s x]=0:=by simp only [cI,he,hx,decide_true,cond_true]
   have hn:nY (mc p::E.map mc) [.s x] (.i .i64 0)=mc p::E.map mc:=by unfold nY;rw [hm,eH];simp
   have hg:n8 (mc p::E.map mc) [.s x]=p.2:=by unfold n8;rw [hm];rfl
   rw [hn,hm,hg,wrap64 (by omega) (by omega),if_pos hx];rfl
  ·have hm:cI (mc p::E.map mc) [.s x]=cI (E.map mc) [.s x]+1:=by simp only [cI,he,hx,decide_false,cond_false]
   have hn:nY (mc p::E.map mc) [.s x] (.i .i64 0)=mc p::nY (E.map mc) [.s x] (.i .i64 0):=by
    unfold nY;rw [hm,eH,eH,aaa];by_cases hq:cI (E.map mc) [.s x]=(E.map mc).length
    ·simp [hq]
    ·have hq': ¬(cI (E.map mc) [.s x]+1=(E.map mc).length+1):=by omega
     simp only [hq,hq',decide_false,cond_false]
   have hg:n8 (mc p::E.map mc) [.s x]=n8 (E.map mc) [.s x]:=by unfold n8;rw [hm,IS]
   rw [hn,hm,hg,if_neg hx,sh,<-ih];unfold tM;rw [IS];cases (nY (E.map mc) [.s x] (.i .i64 0))[cI (E.map mc) [.s x]]? <;>rfl
theorem Zd {E:List (List UInt8×Int)}{x:List UInt8}:(V4 E x).map (·.1)=if x∈E.map (·.1) then E.map (·.1) else E.map (·.1)++[x]:=by
 induction E with
 |nil=>simp [V4]
 |cons p E ih=>
  simp only [V4];by_cases hx:p.1=x
  ·rw [if_pos hx];simp [hx]
  ·rw [if_neg hx,sh,ih];have: ¬(x=p.1):=λh=>hx h.symm;by_cases hm:x∈E.map (·.1)
   ·rw [if_pos hm,if_pos (by simp only [sh,AI];exact .inr hm),sh]
   ·rw [if_neg hm,if_neg (by simp only [sh,AI];rintro (h|h);exact this h;exact hm h)];rfl
theorem Vk {E:List (List UInt8×Int)}{x:List UInt8}(h:(E.map (·.1)).Nodup):((V4 E x).map (·.1)).Nodup:=by
 rw [Zd];split
 ·exact h
 ·rename_i hm;rw [List.nodup_append];refine ⟨h,by simp,λa ha b hb hab=> ?_⟩;simp only [List.mem_singleton] at hb;subst hb;subst hab;exact hm ha
theorem abE {E:List (List UInt8×Int)}{x y:List UInt8}{n:Int}(h:(E.map (·.1)).Nodup):(y,n)∈V4 E x↔(y≠x/\(y,n)∈E)\/(y=x/\((x,n-1)∈E\/(n=1/\x∉E.map (·.1)))):=by
 induction E with
 |nil=>simp [V4]
 |cons p E ih=>
  obtain ⟨h1,h2⟩:=aah.1 h;have ih:=ih h2;obtain ⟨k,m⟩:=p;simp only [V4];simp only at h1;by_cases hx:k=x
  ·subst hx;rw [if_pos rfl];by_cases hy:y=k
   ·subst hy;have dS: ∀n,(y,n)∉E:=λn hm=>h1 (AT.2 ⟨_,hm,rfl⟩);simp only [AI,No,true_and,dS,or_false,ne_eq,not_true_eq_false,false_and,false_or,sh,true_or,not_true_eq_false,and_false];omega
   ·simp [hy]
  ·rw [if_neg hx];simp only [AI,ih,No,sh];by_cases hy:y=x
   ·subst hy;simp [Ne.symm hx,λh:y=k=>hx h.symm]
   ·simp only [hy,false_and,or_false,ne_eq,not_false_eq_true,true_and]
structure K4 (c:Int) (L:List ab) (E:List (List UInt8×Int)):Prop where
 nodup:(E.map (·.1)).Nodup
 mem: ∀x n,(x,n)∈E↔0<nn c L x/\n=(nn c L x:Int)
theorem K4.nil (c:Int):K4 c [] []:=⟨by simp,by simp [nn]⟩
theorem K4.skip {c:Int}{L:List ab}{E:List (List UInt8×Int)}{r:ab}(h:K4 c L E)(hr:(r.Has&&decide (c<r.View))=false):K4 c (L++[r]) E:=by
 refine ⟨h.nodup,λx n=> ?_⟩;have:nn c (L++[r]) x=nn c L x:=by
  unfold nn;rw [OF];have:BG c x r=false:=by unfold BG;rw [<-aai,hr];rfl
  simp [this]
 rw [this];exact h.mem x n
theorem K4.add {c:Int}{L:List ab}{E:List (List UInt8×Int)}{r:ab}(h:K4 c L E)(hr:(r.Has&&decide (c<r.View))=true):K4 c (L++[r]) (V4 E r.Value):=by
 refine ⟨Vk h.nodup,λx n=> ?_⟩;rw [abE h.nodup];have hc:nn c (L++[r]) x=nn c L x+if r.Value=x then 1 else 0:=by
  unfold nn;rw [OF];have:BG c x r=decide (r.Value=x):=by unfold BG;rw [<-aai,hr];rfl
  by_cases hx:r.Value=x<;>simp [this,hx]
 rw [hc];by_cases hx:x=r.Value
 ·subst hx;simp only [if_true,ne_eq,not_true_eq_false,false_and,false_or,true_and,h.mem];have hk:r.Value∉E.map (·.1)↔nn c L r.Value=0:=by
   constructor
   ·intro hm;refine Nat.eq_zero_of_not_pos λhp=>hm ?_;exact AT.2 ⟨_,(h.mem _ _).2 ⟨hp,rfl⟩,rfl⟩
   ·intro h0 hm;obtain ⟨p,hp,he⟩:=AT.1 hm;have:=((h.mem p.1 p.2).1 hp).1;rw [he] at this;omega
  rw [hk];constructor
  ·rintro (⟨h1,h2⟩|⟨h1,h2⟩)
   ·exact ⟨by omega,by omega⟩
   ·exact ⟨by omega,by omega⟩
  ·rintro ⟨_,h2⟩;by_cases h0:nn c L r.Value=0
   ·exact .inr ⟨by omega,h0⟩
   ·exact .inl ⟨by omega,by omega⟩
 ·simp only [hx,ne_eq,not_false_eq_true,true_and,false_and,or_false,if_neg (Ne.symm hx),IT];exact h.mem x n
theorem Cj (L:List ab)(w:Int×List UInt8)(hl:L.length<2^32):aL (Loop (pW L w) (([]:List MV),0)) λes=> ∃E,es=E.map mc/\K4 w.1 L E:=by
 refine aL.loop (λst=> ∃(k:Nat) (E:List (List UInt8×Int)),k<=L.length/\st=(E.map mc,(k:Int))/\K4 w.1 (L.take k) E) (λst=>((L.length:Int)-st.2).toNat) ⟨0,[],Nat.zero_le _,rfl,.nil _⟩ ?_;rintro st ⟨k,E,hk,rfl,hE⟩;unfold pW;by_cases dO:k<L.length
 ·simp only [show ((k:Int)<(L.length:Int)) by omega,if_true,bh dO];rw [wrap64 (x:=(k:Int)+1) (by omega) (by omega)];have Kh:L.take (k+1)=L.take k++[L[k]]:=by rw [List.take_add_one,List.getElem?_eq_getElem dO];rfl
  have S9:(if L[k].Has then some (decide (w.1<L[k].View)) else some false:Option Bool)=some (L[k].Has&&decide (w.1<L[k].View)):=by cases L[k].Has<;>rfl
  rw [S9];simp only [ap];cases hh:L[k].Has&&decide (w.1<L[k].View) with
  |true=>
   rw [abD E L[k].Value]
   ·simp only [if_true,ap];refine .mk ⟨⟨k+1,_,by omega,rfl,?_⟩,by simp only;omega⟩;rw [Kh];exact hE.add hh
   ·intro p hp;obtain ⟨h1,h2⟩:=(hE.mem p.1 p.2).1 hp;have:nn w.1 (L.take k) p.1<=L.length:=by unfold nn;exact nm
    omega
  |false=>simp only [eJ,if_false,ap];refine .mk ⟨⟨k+1,E,by omega,rfl,?_⟩,by simp only;omega⟩;rw [Kh];exact hE.skip hh
 ·simp only [show¬((k:Int)<(L.length:Int)) by omega,if_false];refine .mk ⟨E,rfl,?_⟩;rw [List.take_of_length_le (by omega)] at hE;exact hE
def JS (V:Int)(L:List ab)(res:List UInt8×Bool):Prop:=(∃x,V<=(nn (fE L).1 L x:Int)/\res=(x,true))\/((∀x,(nn (fE L).1 L x:Int)<V)/\res=((fE L).2,decide (0<=(fE L).1)))
theorem JS.uniq {V:Int}{L:List ab} {r r':List UInt8×Bool}(hV:(L.length:Int)<2 *V)(h:JS V L r) (h':JS V L r'):r=r':=by
 rcases h with ⟨x,h1,rfl⟩|⟨h1,rfl⟩<;>rcases h' with ⟨y,h2,rfl⟩|⟨h2,rfl⟩
 ·by_cases ZK:x=y
  ·rw [ZK]
  ·have:=Qi (c:=(fE L).1) ZK L;omega
 ·have:=h2 x;omega
 ·have:=h1 y;omega
 ·rfl
theorem ajt {V:Int}{f:MV->Option (Sum Unit (Unit⊕(List UInt8×Bool)))}{d:Option (Unit⊕(List UInt8×Bool))}(hd:d=some (.inl ()))(hf: ∀p,f (mc p)=if V<=p.2 then some (.inr (.inr (p.1,true))) else some (.inl ())): ∀(E:List (List UInt8×Int)),(E.map (·.1)).Nodup->(∀p∈E,∀q∈E,V<=p.2->V<=q.2->p.1=q.1)->aL (tZ f d (E.map mc)) λr=>(∃p∈E,V<=p.2/\r= .inr (p.1,true))\/((∀p∈E,p.2<V)/\r= .inl ()):=by
 intro E;induction E with
 |nil=>intro _ _;rw [hd];exact .mk (.inr ⟨by simp,rfl⟩)
 |cons p E ih=>
  intro hn hu;obtain ⟨h1,h2⟩:=aah.1 hn;simp only [sh,tZ,hf];by_cases hp:V<=p.2
  ·rw [if_pos hp];have my:(E.map mc).all (λy=>yb (f y))=true:=by
    rw [List.all_eq_true];intro m hm;obtain ⟨q,hq,rfl⟩:=AT.1 hm;rw [hf];by_cases hV:V<=q.2
    ·have:=hu p (by simp) q (by simp [hq]) hp hV;exact absurd (AT.2 ⟨q,hq,this.symm⟩) h1
    ·rw [if_neg hV];rfl
   simp only [my,cond_true];exact .mk (.inl ⟨p,by simp,hp,rfl⟩)
  ·rw [if_neg hp];refine (ih h2 λa ha b hb=>hu a (by simp [ha]) b (by simp [hb])).imp ?_;rintro r (⟨q,hq,h3,h4⟩|⟨h3,h4⟩)
   ·exact .inl ⟨q,by simp [hq],h3,h4⟩
   ·refine .inr ⟨λq hq=> ?_,h4⟩;rcases AI.1 hq with rfl|hq
    ·omega
    ·exact h3 q hq
theorem Qj {s:af}(hs:cr s)(L:List ab)(hn:(L.length:Int)=2 *s.F+2 *s.T+1):aL (nA s L) (JS (s.F+s.T+1) L):=by
 have Vl:=(ei s).1 hs;have hl:L.length<2^32:=by omega
 unfold nA;rw [afv L hl];simp only [ap];refine aL.bd (Cj L (fE L) hl) ?_;rintro es ⟨E,rfl,hE⟩;have hu: ∀p∈E,∀q∈E,s.F+s.T+1<=p.2->s.F+s.T+1<=q.2->p.1=q.1:=by
  intro p hp q hq h1 h2;have e1:=((hE.mem p.1 p.2).1 hp).2;have e2:=((hE.mem q.1 q.2).1 hq).2;by_cases dS:p.1=q.1
  ·exact dS
  ·have:=Qi (c:=(fE L).1) dS L;omega
 refine aL.bd (ajt (V:=s.F+s.T+1) (f:=pX s) rfl (λp=> ?_) E hE.nodup hu) ?_
 ·unfold pX;rw [NV hs];simp only [mc,Px,gT,gC,gA,gN,gS,gI,decide_true,cond_true,ap]
 ·rintro r (⟨p,hp,h1,rfl⟩|⟨h1,rfl⟩)
  ·refine .mk (.inl ⟨p.1,?_,rfl⟩);have:=((hE.mem p.1 p.2).1 hp).2;omega
  ·refine .mk (.inr ⟨λx=> ?_,?_⟩)
   ·by_cases h0:0<nn (fE L).1 L x
    ·exact h1 (x,_) ((hE.mem x _).2 ⟨h0,rfl⟩)
    ·omega
   ·simp only [No,true_and,decide_eq_decide];omega
theorem Sl {s:af}(hs:cr s)(L:List ab)(hn:(L.length:Int)=2 *s.F+2 *s.T+1):aL (Ff (xI s) L) (JS (s.F+s.T+1) L):=by
 have Vl:=(ei s).1 hs;have hl:L.length<2^32:=by omega
 unfold Ff;rw [Za L hl];simp only [ap];have Y4: ∀k (hk:k<L.length),Loop (vD L (fE L) (k:Int)) (0,0)=some (if L[k].Has=true/\(fE L).1<L[k].View then (nn (fE L).1 L L[k].Value:Int) else 0):=by
  intro k hk;refine aL.eq (aL.count (λj=>(if L[k].Has=true/\(fE L).1<L[k].View then (nn (fE L).1 (L.take j) L[k].Value:Int) else 0,(j:Int))) L.length (λ_=>True) (by simp [nn]) trivial (λj hj _=> ?_) (λ_=> ?_))
  ·unfold vD;simp only [show ((j:Int)<(L.length:Int)) by omega,if_true,bh hj,bh hk];rw [wrap64 (x:=(j:Int)+1) (by omega) (by omega)];have hle:nn (fE L).1 (L.take j) L[k].Value<=L.length:=by unfold nn;exact nm
   have zL:nn (fE L).1 (L.take (j+1)) L[k].Value=nn (fE L).1 (L.take j) L[k].Value+if BG (fE L).1 L[k].Value L[j] then 1 else 0:=by unfold nn;rw [nM hj,List.length_append];cases BG (fE L).1 L[k].Value L[j]<;>simp
   rw [zL];by_cases g:L[k].Has=true/\(fE L).1<L[k].View
   ·simp only [if_pos g];obtain ⟨g1,g2⟩:=g;simp only [g1,g2,if_true];unfold BG;cases a1:L[j].Has with
    |false=>simp only [eJ,if_false,ap,aas,IT];exact .mk ⟨rfl,trivial⟩
    |true=>
     simp only [if_true,aaD];by_cases a2:(fE L).1<L[j].View
     ·simp only [a2,if_true,decide_true,aaD,ap];by_cases a3:L[j].Value=L[k].Value
      ·simp only [a3,decide_true,if_true,ap];rw [wrap64 (by omega) (by omega)];exact .mk ⟨by simp,trivial⟩
      ·simp only [a3,decide_false,eJ,if_false,ap,IT];exact .mk ⟨rfl,trivial⟩
     ·simp only [a2,if_false,decide_false,aas,eJ,ap,IT];exact .mk ⟨rfl,trivial⟩
   ·simp only [if_neg g];have:(if L[j].Has then if (fE L).1<L[j].View then if L[k].Has then if (fE L).1<L[k].View then some (decide (L[j].Value=L[k].Value)) else some false else some false else some false else some false:Option Bool)=some false:=by cases b1:L[j].Has<;>by_cases b2:(fE L).1<L[j].View<;>cases b3:L[k].Has<;>by_cases b4:(fE L).1<L[k].View<;>simp [b1,b2,b3,b4]<;>exact absurd ⟨b3,b4⟩ g
    rw [this];simp only [ap,eJ,if_false];exact .mk ⟨rfl,trivial⟩
  ·unfold vD;simp only [show¬((L.length:Int)<(L.length:Int)) by omega,if_false,BY];exact .mk rfl
 have no: ∀k (hk:k<L.length),¬(s.F+s.T+1<=if L[k].Has=true/\(fE L).1<L[k].View then (nn (fE L).1 L L[k].Value:Int) else 0)->BG (fE L).1 L[k].Value L[k]=true->(nn (fE L).1 L L[k].Value:Int)<s.F+s.T+1:=by intro k hk h1 h2;simp only [BG,IN,decide_eq_true_eq] at h2;rw [if_pos ⟨h2.1,h2.2.1⟩] at h1;omega
 refine aL.bd (P:=λr=>(∃k,∃hk:k<L.length,s.F+s.T+1<=(if L[k].Has=true/\(fE L).1<L[k].View then (nn (fE L).1 L L[k].Value:Int) else 0)/\r= .inr (L[k].Value,true))\/((∀k (hk:k<L.length),¬(s.F+s.T+1<=if L[k].Has=true/\(fE L).1<L[k].View then (nn (fE L).1 L L[k].Value:Int) else 0))/\r= .inl ())) (aL.count (λk=>(k:Int)) L.length (λk=> ∀j (hj:j<L.length),j<k-> ¬(s.F+s.T+1<=if L[j].Has=true/\(fE L).1<L[j].View then (nn (fE L).1 L L[j].Value:Int) else 0)) rfl (λj _ hj=>by omega) (λk hk hp=> ?_) (λhp=> ?_)) ?_
 ·unfold zY;simp only [show ((k:Int)<(L.length:Int)) by omega,if_true,Y4 k hk,Qd hs,ap,bh hk];rw [wrap64 (by omega) (by omega)];by_cases g:s.F+s.T+1<=if L[k].Has=true/\(fE L).1<L[k].View then (nn (fE L).1 L L[k].Value:Int) else 0
  ·simp only [g,if_true];exact .mk (.inl ⟨k,hk,g,rfl⟩)
  ·simp only [g,if_false];refine .mk ⟨by omega,λj hj VY=> ?_⟩;by_cases JT:j=k
   ·subst JT;exact g
   ·exact hp j hj (by omega)
 ·unfold zY;simp only [show¬((L.length:Int)<(L.length:Int)) by omega,if_false];exact .mk (.inr ⟨λk hk=>hp k hk hk,rfl⟩)
 ·rintro r (⟨k,hk,h1,rfl⟩|⟨h1,rfl⟩)
  ·refine .mk (.inl ⟨L[k].Value,?_,rfl⟩);by_cases g:L[k].Has=true/\(fE L).1<L[k].View
   ·rw [if_pos g] at h1;exact h1
   ·rw [if_neg g] at h1;omega
  ·refine .mk (.inr ⟨λx=> ?_,rfl⟩);by_cases h0:0<nn (fE L).1 L x
   ·unfold nn at h0;obtain ⟨r,hr⟩:=List.exists_mem_of_length_pos h0;obtain ⟨zO,Hf⟩:=List.mem_filter.1 hr;obtain ⟨k,hk,rfl⟩:=List.mem_iff_getElem.1 zO;have hx:L[k].Value=x:=by simp only [BG,IN,decide_eq_true_eq] at Hf;exact Hf.2.2
    subst hx;exact no k hk (h1 k hk) Hf
   ·omega
theorem NW (s:af)(view:Int)(L:List ab)(x:List UInt8)(hp: ∀r∈L,r.Proof.length<2^32)(hl:L.length<2^32):aL (mX s view L x) λb=>jM (xI s) view L x=some b:=by
 unfold mX jM;obtain ⟨b1,e1,h1⟩:=Qg s view L hp hl;obtain ⟨b2,e2,h2⟩:=Qh s view L hp hl;rw [e1,e2];have:b1=b2:=by cases b1<;>cases b2<;>simp_all
 subst this;simp only [ap];cases b1 with
 |false=>exact .mk rfl
 |true=>
  have hr:=h1.1 rfl;simp only [Bool.not_true,eJ,if_false];obtain ⟨r,e3,h3⟩:=Qj hr.1 L hr.2.1;obtain ⟨r',e4,h4⟩:=Sl hr.1 L hr.2.1;have Vl:=(ei s).1 hr.1;have:=h3.uniq (by have:=hr.2.1;omega) h4;subst this;rw [e3,e4];simp only [ap,JI];cases r.2 with
  |false=>exact .mk rfl
  |true=>exact .mk rfl
end Dn.S
