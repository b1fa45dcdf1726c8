import Derived.Test.YtbkodohojpchjaaGreatDoorDnPShelf7
/-
  Shelves: what a change comes to. Conditions: none.
-/
set_option linter.unusedVariables false
set_option linter.unusedSimpArgs false
open List renaming takeWhile_append_dropWhile→c8,takeWhile→sh,getElem?_eq_getElem→AI,getElem_cons_zero→AS,getElem_cons_succ→AT,dropLast_eq_take→By,mem_iff_getElem→BY,pairwise_append→IN,length_dropLast→IS,mem_cons→IT,length_append→No,length_cons→aaa,getElem_mem→aaf,length_set→aaj,mem_map→aaG
open Int renaming toNat_natCast→OF
open Bool renaming and_eq_true→aai
open Go Dn
namespace Dn.S
theorem get_mem {L:List af}(hs:nm L){n:af}(h:n∈L):eo L n.Path=(n,0):=by obtain ⟨i,hi,rfl⟩:=BY.1 h;exact XI hs hi
theorem ae8 {L:List af}{q:List UInt8}(h: ∀n∈L,n.Path≠q):eo L q=(VM,if bn q then 6 else 13):=by
 unfold eo cu;cases hq:bn q with
 |false=>rfl
 |true=>have:mD (L.map (·.Path)) q= -1:=Ro (λx hx=>by obtain ⟨n,hn,rfl⟩:=aaG.1 hx;exact h n hn);rw [this];rfl
theorem XJ {L:List af}(hs:nm L)(q:List UInt8):(∃n∈L,n.Path=q/\eo L q=(n,0))\/((∀n∈L,n.Path≠q)/\eo L q=(VM,if bn q then 6 else 13)):=by
 by_cases h: ∃n∈L,n.Path=q
 ·obtain ⟨n,hn,rfl⟩:=h;exact .inl ⟨n,hn,rfl,get_mem hs hn⟩
 ·have h': ∀n∈L,n.Path≠q:=λn hn he=>h ⟨n,hn,he⟩;exact .inr ⟨h',ae8 h'⟩
def Ys (p:List UInt8)(n:af):Bool:=nH (aE n.Path) (aE p)
theorem Da {q:af->Bool}{L:List af}{i:Nat}(hi:i<=L.length)(h1: ∀k (hk:k<L.length),k<i->q L[k]=true)(h2: ∀k (hk:k<L.length),i<=k->q L[k]=false): L.take i=L.takeWhile q/\L.drop i=L.dropWhile q:=by
 induction L generalizing i with
 |nil=>simp
 |cons a l ih=>
  cases i with
  |zero=>have:=h2 0 (by simp) (Nat.le_refl _);simp only [AS] at this;simp [sh,List.dropWhile,this]
  |succ i=>have:=h1 0 (by simp) (by omega);simp only [AS] at this;obtain ⟨e1,e2⟩:=ih (i:=i) (by simpa using hi) (λk hk O4=>by have:=h1 (k+1) (by simpa using hk) (by omega);rwa [AT] at this) (λk hk O4=>by have:=h2 (k+1) (by simpa using hk) (by omega);rwa [AT] at this);simp [sh,List.dropWhile,this,e1,e2]
def He (L:List af)(n:af):List af:=L.takeWhile (Ys n.Path)++n::L.dropWhile (Ys n.Path)
theorem VQ {L:List af}{n m:af}:m∈He L n↔m=n\/m∈L:=by
 unfold He;conv=>rhs;rhs;rw [<-c8 (p:=Ys n.Path) (l:=L)]
 simp only [List.mem_append,IT];constructor
 ·rintro (h|h|h)
  ·exact .inr (.inl h)
  ·exact .inl h
  ·exact .inr (.inr h)
 ·rintro (h|h|h)
  ·exact .inr (.inl h)
  ·exact .inl h
  ·exact .inr (.inr h)
theorem ae9 (L:List af)(n:af):(He L n).length=L.length+1:=by unfold He;have:=congrArg List.length (c8 (p:=Ys n.Path) (l:=L));rw [No] at this;rw [No,aaa];omega
theorem XK {α:Type}{q:α->Bool}{l:List α}{x:α}(h:x∈l.takeWhile q):x∈l/\q x=true:=by
 induction l with
 |nil=>simp at h
 |cons a l ih=>
  cases ha:q a with
  |false=>simp [sh,ha] at h
  |true=>
   simp only [sh,ha,IT] at h;rcases h with rfl|h
   ·exact ⟨by simp,ha⟩
   ·exact ⟨by simp [(ih h).1],(ih h).2⟩
theorem afa {L:List af}(hs:nm L){n:af}(hn:bn n.Path=true)(lN: ∀m∈L,m.Path≠n.Path):nm (He L n):=by
 refine ⟨λm hm=> ?_,?_⟩
 ·rcases VQ.1 hm with rfl|h
  ·exact hn
  ·exact hs.1 m h
 have hpw:(L.takeWhile (Ys n.Path)++L.dropWhile (Ys n.Path)).Pairwise λa b=>nH (aE a.Path) (aE b.Path)=true:=by rw [c8];exact hs.2
 rw [IN] at hpw;obtain ⟨p1,p2,p3⟩:=hpw;have hdr: ∀m∈L.dropWhile (Ys n.Path),nH (aE n.Path) (aE m.Path)=true:=by
  intro m hm;have hmL:m∈L:=List.dropWhile_subset _ hm;have dK:Ys n.Path m=false:=by obtain ⟨i0,h1,h2,h3⟩:=EM hs (aE n.Path);have e:=(Da (q:=Ys n.Path) h1 h2 h3).2;rw [<-e] at hm;obtain ⟨k,hk,rfl⟩:=BY.1 hm;rw [List.length_drop] at hk;rw [List.getElem_drop];exact h3 (i0+k) (by omega) (by omega)
  unfold Ys at dK;rcases VK (aE m.Path) (aE n.Path) with h|h|h
  ·rw [h] at dK;cases dK
  ·exact absurd (FK (cQ (hs.1 m hmL)).2.1 (cQ hn).2.1 h) (lN m hmL)
  ·exact h
 unfold He;rw [IN];refine ⟨p1,List.pairwise_cons.2 ⟨hdr,p2⟩,?_⟩;intro a ha b hb;have dK:nH (aE a.Path) (aE n.Path)=true:=(XK ha).2;rcases IT.1 hb with rfl|hb
 ·exact dK
 ·exact p3 a ha b hb
def eE (L:List af)(p value:List UInt8)(owner:Int):Int:=if bn p then (if 0<=mD (L.map (·.Path)) p then 7 else
  if (eo L (bS p).1).2=0 then (if (eo L (bS p).1).1.bF=0 then (if (1000:Int)<(value.length:Int) then 5 else if owner<0 then 1 else if (200:Int)<=(L.length:Int) then 9 else 0) else 10) else 6) else 13
def jT (L:List af)(p value:List UInt8)(owner:Int):List af×Int:=if eE L p value owner=0 then (He L ⟨p,value,0,owner⟩,0) else (L,eE L p value owner)
theorem T9 {s:aA}(hs:nm s.L)(hl:s.L.length<2^40){p:List UInt8}(value:List UInt8)(owner:Int)(hp:bn p=true): iR p (decide (0<=mD (s.L.map (·.Path)) p)) s value owner=some (eE s.L p value owner):=by
 unfold iR eE;rw [xt,al,hp];simp only [Bool.not_true,Bool.false_eq_true,if_false,if_true];by_cases h0:0<=mD (s.L.map (·.Path)) p
 ·simp [h0]
 ·rw [decide_eq_false h0,if_neg (by decide),if_neg h0,MU,al,get_eq hs hl,al];show (if !decide ((eo s.L (bS p).1).2=0) then _ else _)=_;by_cases h1:(eo s.L (bS p).1).2=0
  ·rw [decide_eq_true h1,if_neg (by decide),if_pos h1];show (if !decide ((eo s.L (bS p).1).1.bF=0) then _ else _)=_;by_cases h2:(eo s.L (bS p).1).1.bF=0
   ·rw [decide_eq_true h2,if_neg (by decide),if_pos h2];by_cases h3:(1000:Int)<(value.length:Int)
    ·simp [h3]
    ·rw [if_neg h3,if_neg h3];by_cases h4:owner<0
     ·simp [h4]
     ·rw [if_neg h4,if_neg h4];by_cases h5:(200:Int)<=(s.L.length:Int)
      ·simp [h5]
      ·simp [h5]
   ·rw [decide_eq_false h2,if_pos (by decide),if_neg h2]
  ·rw [decide_eq_false h1,if_pos (by decide),if_neg h1]
theorem Ki {L:List af}{p value:List UInt8}{owner:Int}(h:eE L p value owner=0):bn p=true/\ ¬0<=mD (L.map (·.Path)) p/\(eo L (bS p).1).2=0/\(eo L (bS p).1).1.bF=0/\value.length<=1000/\0<=owner/\L.length<200:=by
 unfold eE at h;cases hp:bn p with
 |false=>rw [hp] at h;simp at h
 |true=>
  rw [hp] at h;by_cases h0:0<=mD (L.map (·.Path)) p
  ·simp [h0] at h
  by_cases h1:(eo L (bS p).1).2=0;rotate_left
  ·simp [h0,h1] at h
  by_cases h2:(eo L (bS p).1).1.bF=0;rotate_left
  ·simp [h0,h1,h2] at h
  simp only [if_true,h0,if_false,h1,h2] at h;by_cases h3:(1000:Int)<(value.length:Int)
  ·simp [h3] at h
  by_cases h4:owner<0
  ·simp [h3,h4] at h
  by_cases h5:(200:Int)<=(L.length:Int)
  ·simp [h3,h4,h5] at h
  exact ⟨rfl,h0,h1,h2,by omega,by omega,by omega⟩
theorem abW {L:List af}{p:List UInt8}(h: ¬0<=mD (L.map (·.Path)) p): ∀n∈L,n.Path≠p:=by
 intro n hn he;apply h;unfold mD;cases hf:(L.map (·.Path)).findIdx? (λx=>decide (x=p)) with
 |some k=>simp
 |none=>rw [List.findIdx?_eq_none_iff] at hf;have:=hf n.Path (aaG.2 ⟨n,hn,rfl⟩);simp [he] at this
theorem XL {s:aA}(hs:nm s.L)(hl:s.L.length<2^38)(p value:List UInt8)(owner:Int):mL s p value owner=some (⟨(jT s.L p value owner).1⟩,(jT s.L p value owner).2):=by
 unfold mL jT;cases hp:bn p with
 |false=>
  have he:eE s.L p value owner=13:=by unfold eE;rw [hp];rfl
  have hF: ∀b,iR p b s value owner=some 13:=by intro b;unfold iR;rw [xt,al,hp];rfl
  obtain ⟨rb,hrb⟩: ∃rb,eV s p=some rb:=by
   rw [Rr];obtain ⟨i0,h1,h2,h3⟩:=EM hs (aE p);refine ⟨_,Cz (L:=s.L) (t:=p) (cmp:=cP) (g:=λn=>if n.Path=p then 0 else if kD n.Path p then-1 else 1) (i0:=0) (by omega) (λn _=>Ke n p) (Nat.zero_le _) (λk hk h=>by omega) (λk hk _=> ?_)⟩;have:kD (s.L[k]).Path p=false:=by unfold kD;rw [hp];simp
   rw [this];split<;>simp
  rw [hrb,al,hF,al,he];rfl
 |true=>
  obtain ⟨i0,h1,h2,h3,h4,h5⟩:=Rs hs (by omega) hp;obtain ⟨e1,e2⟩:=Da (q:=Ys p) h1 h4 h5;rw [h2,al];dsimp only;rw [T9 hs (by omega) value owner hp,al];by_cases he:eE s.L p value owner=0
  ·rw [decide_eq_true he,if_neg (by decide),if_pos he];unfold kp;rw [if_pos (by omega),al];unfold sC;have:=Ki he;rw [if_pos (by simp only [aaa,List.length_nil];refine ⟨by omega,?_,by simp,by omega⟩;rw [OF];exact h1),al];simp only [OF];unfold He;rw [e1,e2];simp
  ·rw [decide_eq_false he,if_pos (by decide),if_neg he]
def lL (L:List af)(p:List UInt8)(version:Int):Int:=if (cu L p).2=0/\version≠ -1/\version≠(eo L p).1.Version then 8 else (cu L p).2
theorem VR {s:aA}(hs:nm s.L)(hl:s.L.length<2^40)(p:List UInt8)(version:Int):eW s p version=some ((cu s.L p).1,lL s.L p version):=by
 unfold eW lL;rw [find_eq hs hl,al];by_cases h:(cu s.L p).2=0
 ·obtain ⟨g1,g2⟩:=OL h;rw [if_pos h];have hv:(eo s.L p).1=s.L[(cu s.L p).1.toNat]:=by unfold eo;rw [if_pos h,AI g2];rfl
  by_cases h1:version= -1
  ·simp [h1,h,al]
  ·rw [decide_eq_false h1,if_pos (by decide),wh g1 g2,al,hv];by_cases h2:version=(s.L[(cu s.L p).1.toNat]).Version
   ·rw [decide_eq_true h2,if_neg (by decide),if_neg (by rintro ⟨_,_,h3⟩;exact h3 h2)]
   ·rw [decide_eq_false h2,if_pos (by decide),if_pos ⟨h,h1,h2⟩]
 ·rw [if_neg h,al,if_neg (by decide),if_neg (λh'=>h h'.1)]
theorem EO {L:List af}{p:List UInt8}{version:Int}(h:lL L p version=0):(cu L p).2=0:=by
 unfold lL at h;split at h
 ·cases h
 ·exact h
def Ua (L:List af)(p value:List UInt8)(version:Int):Int:=if lL L p version=0 then (if (1000:Int)<(value.length:Int) then 5 else if (1000000000:Int)<=(eo L p).1.Version then 9 else 0) else lL L p version
def XM (x:af)(value:List UInt8):af:=⟨x.Path,value,x.Version+1,x.bF⟩
def xx (L:List af)(p value:List UInt8)(version:Int):List af×Int:=if Ua L p value version=0 then (L.set (cu L p).1.toNat (XM (eo L p).1 value),0) else (L,Ua L p value version)
theorem get_at {L:List af}{p:List UInt8}(h:(cu L p).2=0): ∃hi:(cu L p).1.toNat<L.length,(eo L p).1=L[(cu L p).1.toNat]/\(eo L p).1.Path=p/\0<=(cu L p).1:=by
 obtain ⟨g1,g2⟩:=OL h;have hv:(eo L p).1=L[(cu L p).1.toNat]:=by unfold eo;rw [if_pos h,AI g2];rfl
 refine ⟨g2,hv,?_,g1⟩;obtain ⟨_,i,hi,e,hp⟩:=OM h;rw [hv];have:(cu L p).1.toNat=i:=by rw [e];rfl
 simp only [this];exact hp
theorem ai3 {s:aA}(kJ:fN s.L)(p value:List UInt8)(version:Int):wT s p value version=some (⟨(xx s.L p value version).1⟩,(xx s.L p value version).2):=by
 have hl:=kJ.len;have hs:=kJ.ord;unfold wT xx Ua;rw [VR hs (by omega),al];dsimp only;by_cases h:lL s.L p version=0;rotate_left
 ·rw [decide_eq_false h,if_pos (by decide),if_neg h,if_neg h]
 obtain ⟨g2,hv,_,g1⟩:=get_at (EO h);have hfl:=kJ.xC _ (aaf g2);rw [decide_eq_true h,if_neg (by decide),if_pos h];by_cases h1:(1000:Int)<(value.length:Int)
 ·simp [h1]
 ·rw [if_neg h1,if_neg h1,wh g1 g2,hv];by_cases h2:(1000000000:Int)<=(s.L[(cu s.L p).1.toNat]).Version
  ·rw [if_pos h2,if_pos h2];rfl
  ·rw [if_neg h2,if_neg h2];unfold kp;rw [if_pos (by omega),al,wh g1 g2,wh g1 (by rw [aaj];exact g2),wh g1 (by rw [aaj];exact g2)];simp only [List.getElem_set_self,if_true,List.set_set];rw [wrap64 (by omega) (by omega)];rfl
def Ub (L:List af)(p:List UInt8)(version:Int):Int:=if p=[47] then 13 else if lL L p version=0 then (if jE L p=[] then 0 else 10) else lL L p version
def yZ (L:List af)(p:List UInt8)(version:Int):List af×Int:=if Ub L p version=0 then (L.take (cu L p).1.toNat++L.drop ((cu L p).1.toNat+1),0) else (L,Ub L p version)
theorem XN {L:List af}(kJ:fN L){p:List UInt8}(hp:bn p=true): ∀(m:Nat){n:af},n∈L->(aE n.Path).length=m->jL (aE p) (aE n.Path)=true-> ∃k∈L,zI p k=true:=by
 intro m;induction m with
 |zero=>intro n hn hm hb;unfold jL at hb;simp only [aai,decide_eq_true_eq] at hb;omega
 |succ m ih=>
  intro n hn hm hb;have hr:=kJ.ord.1 n hn;by_cases h1:(aE n.Path).length=(aE p).length+1
  ·exact ⟨n,hn,(xv hr hp).2 ⟨hb,h1⟩⟩
  ·have kc:n.Path≠[47]:=by intro e;rw [e,Kh] at hm;simp at hm
   obtain ⟨x,hx,hxp,_⟩:=kJ.grown n hn kc;have S0:(bS n.Path).1=lK (aE n.Path).dropLast:=by unfold bS;rw [hr];simp [kc]
   have lW:(aE n.Path).dropLast.all gX=true:=by obtain ⟨_,_,_,x4⟩:=cQ hr;rw [List.all_eq_true] at x4⊢;exact λy hy=>x4 y (List.mem_of_mem_take (by rw [By] at hy;exact hy))
   have hnx:aE x.Path=(aE n.Path).dropLast:=by rw [hxp,S0,(yY lW).1]
   refine ih hx (by rw [hnx,IS];omega) ?_;unfold jL at hb⊢;simp only [aai,decide_eq_true_eq] at hb⊢;rw [hnx,IS,By,List.take_take,Nat.min_eq_left (by omega)];exact ⟨by omega,hb.2⟩
theorem XO {L:List af}(kJ:fN L){p:List UInt8}{i:Nat}(hi:i<L.length)(hp:(L[i]).Path=p):jE L p=[]↔ ∀h:i+1<L.length,r5 p (L[i+1]).Path=false:=by
 have hs:=kJ.ord;have H8:bn p=true:=by rw [<-hp];exact dY hs hi
 constructor
 ·intro hk h;rw [Bool.eq_false_iff];intro hb;unfold r5 at hb;rw [H8,dY hs h] at hb;simp only [Bool.true_and] at hb;obtain ⟨k,hkm,hkk⟩:=XN kJ H8 _ (aaf h) rfl hb;have:k∈L.filter (zI p):=List.mem_filter.2 ⟨hkm,hkk⟩;unfold jE at hk;rw [List.map_eq_nil_iff] at hk;rw [hk] at this;simp at this
 ·intro h;by_cases h1:i+1<L.length
  ·rw [<-Rt hs hi hp h1 (by omega) (h h1),C9 hs hi hp]
  ·have:=C9 hs hi hp;rw [List.take_of_length_le (by omega)] at this;exact this
theorem del_eq {s:aA}(kJ:fN s.L)(p:List UInt8)(version:Int):o8 s p version=some (⟨(yZ s.L p version).1⟩,(yZ s.L p version).2):=by
 have hl:=kJ.len;have hs:=kJ.ord;unfold o8 yZ Ub;rw [VR hs (by omega),al];dsimp only;by_cases hp:p=[47]
 ·rw [if_pos hp,if_pos hp];rfl
 rw [if_neg hp,if_neg hp];by_cases h:lL s.L p version=0;rotate_left
 ·rw [decide_eq_false h,if_pos (by decide),if_neg h,if_neg h]
 obtain ⟨g2,hv,hpa,g1⟩:=get_at (EO h);rw [hv] at hpa;have Yn:=XO kJ g2 hpa;rw [decide_eq_true h,if_neg (by decide),if_pos h];obtain ⟨i,oQ⟩: ∃i:Nat,(cu s.L p).1=(i:Int):=⟨(cu s.L p).1.toNat,by omega⟩
 have vI:(cu s.L p).1.toNat=i:=by rw [oQ];rfl
 simp only [vI] at g2 Yn hpa⊢;rw [oQ,wrap64 (by omega) (by omega),show (i:Int)+1=((i+1:Nat):Int) by omega];have hw:(if ((i+1:Nat):Int)<(s.L.length:Int) then ix s.L ((i+1:Nat):Int) λy=>bd (n7 p y.Path) λaT=>some aT else some false)=some (!decide (jE s.L p=[])):=by
  by_cases h1:i+1<s.L.length
  ·rw [if_pos (by omega),aP h1,Rn,al];cases hb:r5 p (s.L[i+1]).Path with
   |true=>rw [decide_eq_false (λhk=>by rw [Yn.1 hk h1] at hb;cases hb)];rfl
   |false=>rw [decide_eq_true (Yn.2 λ_=>hb)];rfl
  ·rw [if_neg (by omega),decide_eq_true (Yn.2 λh'=>absurd h' h1)];rfl
 rw [hw,al];by_cases hk:jE s.L p=[]
 ·rw [decide_eq_true hk,if_neg (by decide),if_pos hk];unfold kp;rw [if_pos (by omega),al];unfold Br;rw [if_pos ⟨by omega,by omega,by omega⟩,al];simp
 ·rw [decide_eq_false hk,if_pos (by decide),if_neg hk];rfl
end Dn.S
