import Derived.Test.YtbkodohojpchjaaGreatDoorDnPShelf7
/-
  Shelves: what a change comes to. Conditions: none.
-/
set_option linter.unusedVariables false
set_option linter.unusedSimpArgs false
open List renaming takeWhile_append_dropWhile→c9,takeWhile→sh,getElem?_eq_getElem→AI,getElem_cons_zero→AS,getElem_cons_succ→AT,dropLast_eq_take→By,mem_iff_getElem→BY,pairwise_append→IN,length_dropLast→IS,mem_cons→IT,length_append→No,length_cons→aaq,getElem_mem→aar,length_set→aaF,mem_map→aaJ
open Int renaming toNat_natCast→OF
open Bool renaming and_eq_true→aas
open Go Dn
namespace Dn.S
theorem get_mem {L:List ah}(hs:od L){n:ah}(h:n∈L):en L n.Path=(n,0):=by obtain ⟨i,hi,rfl⟩:=BY.1 h;exact Xo hs hi
theorem aeX {L:List ah}{q:List UInt8}(h: ∀n∈L,n.Path≠q):en L q=(Vx,if bA q then 6 else 13):=by
 unfold en cr;cases hq:bA q with
 |false=>rfl
 |true=>have:rN (L.map (·.Path)) q= -1:=Rj (λx hx=>by obtain ⟨n,hn,rfl⟩:=aaJ.1 hx;exact h n hn);rw [this];rfl
theorem Xp {L:List ah}(hs:od L)(q:List UInt8):(∃n∈L,n.Path=q/\en L q=(n,0))\/((∀n∈L,n.Path≠q)/\en L q=(Vx,if bA q then 6 else 13)):=by
 by_cases h: ∃n∈L,n.Path=q
 ·obtain ⟨n,hn,rfl⟩:=h;exact .inl ⟨n,hn,rfl,get_mem hs hn⟩
 ·have h': ∀n∈L,n.Path≠q:=λn hn he=>h ⟨n,hn,he⟩;exact .inr ⟨h',aeX h'⟩
def X9 (p:List UInt8)(n:ah):Bool:=oc (aH n.Path) (aH p)
theorem CS {q:ah->Bool}{L:List ah}{i:Nat}(hi:i<=L.length)(h1: ∀k (hk:k<L.length),k<i->q L[k]=true)(h2: ∀k (hk:k<L.length),i<=k->q L[k]=false): L.take i=L.takeWhile q/\L.drop i=L.dropWhile q:=by
 induction L generalizing i with
 |nil=>simp
 |cons a l ih=>
  cases i with
  |zero=>have:=h2 0 (by simp) (Nat.le_refl _);simp only [AS] at this;simp [sh,List.dropWhile,this]
  |succ i=>have:=h1 0 (by simp) (by omega);simp only [AS] at this;obtain ⟨e1,e2⟩:=ih (i:=i) (by simpa using hi) (λk hk O4=>by have:=h1 (k+1) (by simpa using hk) (by omega);rwa [AT] at this) (λk hk O4=>by have:=h2 (k+1) (by simpa using hk) (by omega);rwa [AT] at this);simp [sh,List.dropWhile,this,e1,e2]
def Hf (L:List ah)(n:ah):List ah:=L.takeWhile (X9 n.Path)++n::L.dropWhile (X9 n.Path)
theorem VB {L:List ah}{n m:ah}:m∈Hf L n↔m=n\/m∈L:=by
 unfold Hf;conv=>rhs;rhs;rw [<-c9 (p:=X9 n.Path) (l:=L)]
 simp only [List.mem_append,IT];constructor
 ·rintro (h|h|h)
  ·exact .inr (.inl h)
  ·exact .inl h
  ·exact .inr (.inr h)
 ·rintro (h|h|h)
  ·exact .inr (.inl h)
  ·exact .inl h
  ·exact .inr (.inr h)
theorem aeY (L:List ah)(n:ah):(Hf L n).length=L.length+1:=by unfold Hf;have:=congrArg List.length (c9 (p:=X9 n.Path) (l:=L));rw [No] at this;rw [No,aaq];omega
theorem Xq {α:Type}{q:α->Bool}{l:List α}{x:α}(h:x∈l.takeWhile q):x∈l/\q x=true:=by
 induction l with
 |nil=>simp at h
 |cons a l ih=>
  cases ha:q a with
  |false=>simp [sh,ha] at h
  |true=>
   simp only [sh,ha,IT] at h;rcases h with rfl|h
   ·exact ⟨by simp,ha⟩
   ·exact ⟨by simp [(ih h).1],(ih h).2⟩
theorem aeZ {L:List ah}(hs:od L){n:ah}(hn:bA n.Path=true)(lP: ∀m∈L,m.Path≠n.Path):od (Hf L n):=by
 refine ⟨λm hm=> ?_,?_⟩
 ·rcases VB.1 hm with rfl|h
  ·exact hn
  ·exact hs.1 m h
 have hpw:(L.takeWhile (X9 n.Path)++L.dropWhile (X9 n.Path)).Pairwise λa b=>oc (aH a.Path) (aH b.Path)=true:=by rw [c9];exact hs.2
 rw [IN] at hpw;obtain ⟨p1,p2,p3⟩:=hpw;have ZU: ∀m∈L.dropWhile (X9 n.Path),oc (aH n.Path) (aH m.Path)=true:=by
  intro m hm;have hmL:m∈L:=List.dropWhile_subset _ hm;have dY:X9 n.Path m=false:=by obtain ⟨i0,h1,h2,h3⟩:=ED hs (aH n.Path);have e:=(CS (q:=X9 n.Path) h1 h2 h3).2;rw [<-e] at hm;obtain ⟨k,hk,rfl⟩:=BY.1 hm;rw [List.length_drop] at hk;rw [List.getElem_drop];exact h3 (i0+k) (by omega) (by omega)
  unfold X9 at dY;rcases Vw (aH m.Path) (aH n.Path) with h|h|h
  ·rw [h] at dY;cases dY
  ·exact absurd (FG (cR (hs.1 m hmL)).2.1 (cR hn).2.1 h) (lP m hmL)
  ·exact h
 unfold Hf;rw [IN];refine ⟨p1,List.pairwise_cons.2 ⟨ZU,p2⟩,?_⟩;intro a ha b hb;have dY:oc (aH a.Path) (aH n.Path)=true:=(Xq ha).2;rcases IT.1 hb with rfl|hb
 ·exact dY
 ·exact p3 a ha b hb
def eG (L:List ah)(p value:List UInt8)(owner:Int):Int:=if bA p then (if 0<=rN (L.map (·.Path)) p then 7 else
  if (en L (cy p).1).2=0 then (if (en L (cy p).1).1.b5=0 then (if (1000:Int)<(value.length:Int) then 5 else if owner<0 then 1 else if (200:Int)<=(L.length:Int) then 9 else 0) else 10) else 6) else 13
def jT (L:List ah)(p value:List UInt8)(owner:Int):List ah×Int:=if eG L p value owner=0 then (Hf L ⟨p,value,0,owner⟩,0) else (L,eG L p value owner)
theorem TP {s:aD}(hs:od s.L)(hl:s.L.length<2^40){p:List UInt8}(value:List UInt8)(owner:Int)(hp:bA p=true): iQ p (decide (0<=rN (s.L.map (·.Path)) p)) s value owner=some (eG s.L p value owner):=by
 unfold iQ eG;rw [xi,av,hp];simp only [Bool.not_true,Bool.false_eq_true,if_false,if_true];by_cases h0:0<=rN (s.L.map (·.Path)) p
 ·simp [h0]
 ·rw [decide_eq_false h0,if_neg (by decide),if_neg h0,MJ,av,get_eq hs hl,av];show (if !decide ((en s.L (cy p).1).2=0) then _ else _)=_;by_cases h1:(en s.L (cy p).1).2=0
  ·rw [decide_eq_true h1,if_neg (by decide),if_pos h1];show (if !decide ((en s.L (cy p).1).1.b5=0) then _ else _)=_;by_cases h2:(en s.L (cy p).1).1.b5=0
   ·rw [decide_eq_true h2,if_neg (by decide),if_pos h2];by_cases h3:(1000:Int)<(value.length:Int)
    ·simp [h3]
    ·rw [if_neg h3,if_neg h3];by_cases h4:owner<0
     ·simp [h4]
     ·rw [if_neg h4,if_neg h4];by_cases h5:(200:Int)<=(s.L.length:Int)
      ·simp [h5]
      ·simp [h5]
   ·rw [decide_eq_false h2,if_pos (by decide),if_neg h2]
  ·rw [decide_eq_false h1,if_pos (by decide),if_neg h1]
theorem Kl {L:List ah}{p value:List UInt8}{owner:Int}(h:eG L p value owner=0):bA p=true/\ ¬0<=rN (L.map (·.Path)) p/\(en L (cy p).1).2=0/\(en L (cy p).1).1.b5=0/\value.length<=1000/\0<=owner/\L.length<200:=by
 unfold eG at h;cases hp:bA p with
 |false=>rw [hp] at h;simp at h
 |true=>
  rw [hp] at h;by_cases h0:0<=rN (L.map (·.Path)) p
  ·simp [h0] at h
  by_cases h1:(en L (cy p).1).2=0;rotate_left
  ·simp [h0,h1] at h
  by_cases h2:(en L (cy p).1).1.b5=0;rotate_left
  ·simp [h0,h1,h2] at h
  simp only [if_true,h0,if_false,h1,h2] at h;by_cases h3:(1000:Int)<(value.length:Int)
  ·simp [h3] at h
  by_cases h4:owner<0
  ·simp [h3,h4] at h
  by_cases h5:(200:Int)<=(L.length:Int)
  ·simp [h3,h4,h5] at h
  exact ⟨rfl,h0,h1,h2,by omega,by omega,by omega⟩
theorem abC {L:List ah}{p:List UInt8}(h: ¬0<=rN (L.map (·.Path)) p): ∀n∈L,n.Path≠p:=by
 intro n hn he;apply h;unfold rN;cases hf:(L.map (·.Path)).findIdx? (λx=>decide (x=p)) with
 |some k=>simp
 |none=>rw [List.findIdx?_eq_none_iff] at hf;have:=hf n.Path (aaJ.2 ⟨n,hn,rfl⟩);simp [he] at this
theorem Xr {s:aD}(hs:od s.L)(hl:s.L.length<2^38)(p value:List UInt8)(owner:Int):mI s p value owner=some (⟨(jT s.L p value owner).1⟩,(jT s.L p value owner).2):=by
 unfold mI jT;cases hp:bA p with
 |false=>
  have he:eG s.L p value owner=13:=by unfold eG;rw [hp];rfl
  have hF: ∀b,iQ p b s value owner=some 13:=by intro b;unfold iQ;rw [xi,av,hp];rfl
  obtain ⟨rb,hrb⟩: ∃rb,eW s p=some rb:=by
   rw [Rk];obtain ⟨i0,h1,h2,h3⟩:=ED hs (aH p);refine ⟨_,Ch (L:=s.L) (t:=p) (cmp:=cQ) (g:=λn=>if n.Path=p then 0 else if pJ n.Path p then-1 else 1) (i0:=0) (by omega) (λn _=>Ki n p) (Nat.zero_le _) (λk hk h=>by omega) (λk hk _=> ?_)⟩;have:pJ (s.L[k]).Path p=false:=by unfold pJ;rw [hp];simp
   rw [this];split<;>simp
  rw [hrb,av,hF,av,he];rfl
 |true=>
  obtain ⟨i0,h1,h2,h3,h4,h5⟩:=Rl hs (by omega) hp;obtain ⟨e1,e2⟩:=CS (q:=X9 p) h1 h4 h5;rw [h2,av];dsimp only;rw [TP hs (by omega) value owner hp,av];by_cases he:eG s.L p value owner=0
  ·rw [decide_eq_true he,if_neg (by decide),if_pos he];unfold kC;rw [if_pos (by omega),av];unfold sJ;have:=Kl he;rw [if_pos (by simp only [aaq,List.length_nil];refine ⟨by omega,?_,by simp,by omega⟩;rw [OF];exact h1),av];simp only [OF];unfold Hf;rw [e1,e2];simp
  ·rw [decide_eq_false he,if_pos (by decide),if_neg he]
def lN (L:List ah)(p:List UInt8)(version:Int):Int:=if (cr L p).2=0/\version≠ -1/\version≠(en L p).1.Version then 8 else (cr L p).2
theorem VC {s:aD}(hs:od s.L)(hl:s.L.length<2^40)(p:List UInt8)(version:Int):eX s p version=some ((cr s.L p).1,lN s.L p version):=by
 unfold eX lN;rw [find_eq hs hl,av];by_cases h:(cr s.L p).2=0
 ·obtain ⟨g1,g2⟩:=OH h;rw [if_pos h];have hv:(en s.L p).1=s.L[(cr s.L p).1.toNat]:=by unfold en;rw [if_pos h,AI g2];rfl
  by_cases h1:version= -1
  ·simp [h1,h,av]
  ·rw [decide_eq_false h1,if_pos (by decide),yJ g1 g2,av,hv];by_cases h2:version=(s.L[(cr s.L p).1.toNat]).Version
   ·rw [decide_eq_true h2,if_neg (by decide),if_neg (by rintro ⟨_,_,h3⟩;exact h3 h2)]
   ·rw [decide_eq_false h2,if_pos (by decide),if_pos ⟨h,h1,h2⟩]
 ·rw [if_neg h,av,if_neg (by decide),if_neg (λh'=>h h'.1)]
theorem EF {L:List ah}{p:List UInt8}{version:Int}(h:lN L p version=0):(cr L p).2=0:=by
 unfold lN at h;split at h
 ·cases h
 ·exact h
def TQ (L:List ah)(p value:List UInt8)(version:Int):Int:=if lN L p version=0 then (if (1000:Int)<(value.length:Int) then 5 else if (1000000000:Int)<=(en L p).1.Version then 9 else 0) else lN L p version
def Xs (x:ah)(value:List UInt8):ah:=⟨x.Path,value,x.Version+1,x.b5⟩
def xm (L:List ah)(p value:List UInt8)(version:Int):List ah×Int:=if TQ L p value version=0 then (L.set (cr L p).1.toNat (Xs (en L p).1 value),0) else (L,TQ L p value version)
theorem get_at {L:List ah}{p:List UInt8}(h:(cr L p).2=0): ∃hi:(cr L p).1.toNat<L.length,(en L p).1=L[(cr L p).1.toNat]/\(en L p).1.Path=p/\0<=(cr L p).1:=by
 obtain ⟨g1,g2⟩:=OH h;have hv:(en L p).1=L[(cr L p).1.toNat]:=by unfold en;rw [if_pos h,AI g2];rfl
 refine ⟨g2,hv,?_,g1⟩;obtain ⟨_,i,hi,e,hp⟩:=OI h;rw [hv];have:(cr L p).1.toNat=i:=by rw [e];rfl
 simp only [this];exact hp
theorem aiQ {s:aD}(mR:ga s.L)(p value:List UInt8)(version:Int):wI s p value version=some (⟨(xm s.L p value version).1⟩,(xm s.L p value version).2):=by
 have hl:=mR.len;have hs:=mR.ord;unfold wI xm TQ;rw [VC hs (by omega),av];dsimp only;by_cases h:lN s.L p version=0;rotate_left
 ·rw [decide_eq_false h,if_pos (by decide),if_neg h,if_neg h]
 obtain ⟨g2,hv,_,g1⟩:=get_at (EF h);have hfl:=mR.zf _ (aar g2);rw [decide_eq_true h,if_neg (by decide),if_pos h];by_cases h1:(1000:Int)<(value.length:Int)
 ·simp [h1]
 ·rw [if_neg h1,if_neg h1,yJ g1 g2,hv];by_cases h2:(1000000000:Int)<=(s.L[(cr s.L p).1.toNat]).Version
  ·rw [if_pos h2,if_pos h2];rfl
  ·rw [if_neg h2,if_neg h2];unfold kC;rw [if_pos (by omega),av,yJ g1 g2,yJ g1 (by rw [aaF];exact g2),yJ g1 (by rw [aaF];exact g2)];simp only [List.getElem_set_self,if_true,List.set_set];rw [wrap64 (by omega) (by omega)];rfl
def TR (L:List ah)(p:List UInt8)(version:Int):Int:=if p=[47] then 13 else if lN L p version=0 then (if jI L p=[] then 0 else 10) else lN L p version
def yN (L:List ah)(p:List UInt8)(version:Int):List ah×Int:=if TR L p version=0 then (L.take (cr L p).1.toNat++L.drop ((cr L p).1.toNat+1),0) else (L,TR L p version)
theorem Xt {L:List ah}(mR:ga L){p:List UInt8}(hp:bA p=true): ∀(m:Nat){n:ah},n∈L->(aH n.Path).length=m->jM (aH p) (aH n.Path)=true-> ∃k∈L,zu p k=true:=by
 intro m;induction m with
 |zero=>intro n hn hm hb;unfold jM at hb;simp only [aas,decide_eq_true_eq] at hb;omega
 |succ m ih=>
  intro n hn hm hb;have hr:=mR.ord.1 n hn;by_cases h1:(aH n.Path).length=(aH p).length+1
  ·exact ⟨n,hn,(xk hr hp).2 ⟨hb,h1⟩⟩
  ·have kl:n.Path≠[47]:=by intro e;rw [e,TM] at hm;simp at hm
   obtain ⟨x,hx,hxp,_⟩:=mR.grown n hn kl;have Wk:(cy n.Path).1=lM (aH n.Path).dropLast:=by unfold cy;rw [hr];simp [kl]
   have nm:(aH n.Path).dropLast.all gV=true:=by obtain ⟨_,_,_,x4⟩:=cR hr;rw [List.all_eq_true] at x4⊢;exact λy hy=>x4 y (List.mem_of_mem_take (by rw [By] at hy;exact hy))
   have hnx:aH x.Path=(aH n.Path).dropLast:=by rw [hxp,Wk,(yM nm).1]
   refine ih hx (by rw [hnx,IS];omega) ?_;unfold jM at hb⊢;simp only [aas,decide_eq_true_eq] at hb⊢;rw [hnx,IS,By,List.take_take,Nat.min_eq_left (by omega)];exact ⟨by omega,hb.2⟩
theorem Xu {L:List ah}(mR:ga L){p:List UInt8}{i:Nat}(hi:i<L.length)(hp:(L[i]).Path=p):jI L p=[]↔ ∀h:i+1<L.length,sa p (L[i+1]).Path=false:=by
 have hs:=mR.ord;have Ic:bA p=true:=by rw [<-hp];exact gX hs hi
 constructor
 ·intro hk h;rw [Bool.eq_false_iff];intro hb;unfold sa at hb;rw [Ic,gX hs h] at hb;simp only [Bool.true_and] at hb;obtain ⟨k,hkm,hkk⟩:=Xt mR Ic _ (aar h) rfl hb;have:k∈L.filter (zu p):=List.mem_filter.2 ⟨hkm,hkk⟩;unfold jI at hk;rw [List.map_eq_nil_iff] at hk;rw [hk] at this;simp at this
 ·intro h;by_cases h1:i+1<L.length
  ·rw [<-Rm hs hi hp h1 (by omega) (h h1),CR hs hi hp]
  ·have:=CR hs hi hp;rw [List.take_of_length_le (by omega)] at this;exact this
theorem del_eq {s:aD}(mR:ga s.L)(p:List UInt8)(version:Int):o6 s p version=some (⟨(yN s.L p version).1⟩,(yN s.L p version).2):=by
 have hl:=mR.len;have hs:=mR.ord;unfold o6 yN TR;rw [VC hs (by omega),av];dsimp only;by_cases hp:p=[47]
 ·rw [if_pos hp,if_pos hp];rfl
 rw [if_neg hp,if_neg hp];by_cases h:lN s.L p version=0;rotate_left
 ·rw [decide_eq_false h,if_pos (by decide),if_neg h,if_neg h]
 obtain ⟨g2,hv,hpa,g1⟩:=get_at (EF h);rw [hv] at hpa;have X6:=Xu mR g2 hpa;rw [decide_eq_true h,if_neg (by decide),if_pos h];obtain ⟨i,oP⟩: ∃i:Nat,(cr s.L p).1=(i:Int):=⟨(cr s.L p).1.toNat,by omega⟩
 have vG:(cr s.L p).1.toNat=i:=by rw [oP];rfl
 simp only [vG] at g2 X6 hpa⊢;rw [oP,wrap64 (by omega) (by omega),show (i:Int)+1=((i+1:Nat):Int) by omega];have hw:(if ((i+1:Nat):Int)<(s.L.length:Int) then ix s.L ((i+1:Nat):Int) λy=>bd (nZ p y.Path) λaT=>some aT else some false)=some (!decide (jI s.L p=[])):=by
  by_cases h1:i+1<s.L.length
  ·rw [if_pos (by omega),ba h1,Ri,av];cases hb:sa p (s.L[i+1]).Path with
   |true=>rw [decide_eq_false (λhk=>by rw [X6.1 hk h1] at hb;cases hb)];rfl
   |false=>rw [decide_eq_true (X6.2 λ_=>hb)];rfl
  ·rw [if_neg (by omega),decide_eq_true (X6.2 λh'=>absurd h' h1)];rfl
 rw [hw,av];by_cases hk:jI s.L p=[]
 ·rw [decide_eq_true hk,if_neg (by decide),if_pos hk];unfold kC;rw [if_pos (by omega),av];unfold Bd;rw [if_pos ⟨by omega,by omega,by omega⟩,av];simp
 ·rw [decide_eq_false hk,if_pos (by decide),if_neg hk];rfl
end Dn.S
