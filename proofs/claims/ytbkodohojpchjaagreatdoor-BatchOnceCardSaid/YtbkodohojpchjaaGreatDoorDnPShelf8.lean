import Derived.Test.YtbkodohojpchjaaGreatDoorDnPShelf7
/- Shelves: what a change comes. Conditions: none. -/
set_option linter.unusedVariables false
set_option linter.unusedSimpArgs false
open List renaming takeWhile_append_dropWhile→bN,takeWhile→sh,getElem?_eq_getElem→AI,getElem_cons_zero→AS,getElem_cons_succ→AT,dropLast_eq_take→By,pairwise_append→BY,length_dropLast→IN,mem_cons→IT,length_append→No,length_cons→aaG,getElem_mem→aaW,length_set→abK
open Int renaming toNat_natCast→OF
open Bool renaming and_eq_true→aa6
open Go Dn
namespace Dn.S
def ltQ (p:List UInt8)(n:af):Bool:=rG (aT n.Path) (aT p)
theorem JU {q:af->Bool}{L:List af}{i:Nat}(hi:i<=L.length)(h1: ∀k (hk:k<L.length),k<i->q L[k]=true)(h2: ∀k (hk:k<L.length),i<=k->q L[k]=false): L.take i=L.takeWhile q/\L.drop i=L.dropWhile q:=by
 induction L generalizing i with
 |nil=>simp
 |cons a l ih=>
  cases i with
  |zero=>have:=h2 0 (by simp) (Nat.le_refl _);simp only [AS] at this;simp [sh,List.dropWhile,this]
  |succ i=>have:=h1 0 (by simp) (by omega);simp only [AS] at this;obtain ⟨e1,e2⟩:=ih (i:=i) (by simpa using hi) (λk hk hki=>by have:=h1 (k+1) (by simpa using hk) (by omega);rwa [AT] at this) (λk hk hki=>by have:=h2 (k+1) (by simpa using hk) (by omega);rwa [AT] at this);simp [sh,List.dropWhile,this,e1,e2]
def Lc (L:List af)(n:af):List af:=L.takeWhile (ltQ n.Path)++n::L.dropWhile (ltQ n.Path)
theorem UP {L:List af}{n m:af}:m∈Lc L n↔m=n\/m∈L:=by
 unfold Lc;conv=>rhs;rhs;rw [<-bN (p:=ltQ n.Path) (l:=L)]
 simp only [List.mem_append,IT];constructor
 ·rintro (h|h|h)
  ·exact .inr (.inl h)
  ·exact .inl h
  ·exact .inr (.inr h)
 ·rintro (h|h|h)
  ·exact .inr (.inl h)
  ·exact .inl h
  ·exact .inr (.inr h)
theorem aet (L:List af)(n:af):(Lc L n).length=L.length+1:=by unfold Lc;have:=congrArg List.length (bN (p:=ltQ n.Path) (l:=L));rw [No] at this;rw [No,aaG];omega
theorem WK {α:Type}{q:α->Bool}{l:List α}{x:α}(h:x∈l.takeWhile q):x∈l/\q x=true:=by
 induction l with
 |nil=>simp at h
 |cons a l ih=>
  cases ha:q a with
  |false=>simp [sh,ha] at h
  |true=>
   simp only [sh,ha,IT] at h;rcases h with rfl|h
   ·exact ⟨by simp,ha⟩
   ·exact ⟨by simp [(ih h).1],(ih h).2⟩
theorem aeu {L:List af}(hs:rI L){n:af}(hn:bX n.Path=true)(jC: ∀m∈L,m.Path≠n.Path):rI (Lc L n):=by
 refine ⟨λm hm=> ?_,?_⟩
 ·rcases UP.1 hm with rfl|h
  ·exact hn
  ·exact hs.1 m h
 have hpw:(L.takeWhile (ltQ n.Path)++L.dropWhile (ltQ n.Path)).Pairwise λa b=>rG (aT a.Path) (aT b.Path)=true:=by rw [bN];exact hs.2
 rw [BY] at hpw;obtain ⟨p1,p2,p3⟩:=hpw;have hdr: ∀m∈L.dropWhile (ltQ n.Path),rG (aT n.Path) (aT m.Path)=true:=by
  intro m hm;have hmL:m∈L:=List.dropWhile_subset _ hm;have cI:ltQ n.Path m=false:=by obtain ⟨i0,h1,h2,h3⟩:=JR hs (aT n.Path);have e:=(JU (q:=ltQ n.Path) h1 h2 h3).2;rw [<-e] at hm;obtain ⟨k,hk,rfl⟩:=List.mem_iff_getElem.1 hm;rw [List.length_drop] at hk;rw [List.getElem_drop];exact h3 (i0+k) (by omega) (by omega)
  unfold ltQ at cI;rcases aeo (aT m.Path) (aT n.Path) with h|h|h
  ·rw [h] at cI;cases cI
  ·exact absurd (WG (iw (hs.1 m hmL)).2.1 (iw hn).2.1 h) (jC m hmL)
  ·exact h
 unfold Lc;rw [BY];refine ⟨p1,List.pairwise_cons.2 ⟨hdr,p2⟩,?_⟩;intro a ha b hb;have cI:rG (aT a.Path) (aT n.Path)=true:=(WK ha).2;rcases IT.1 hb with rfl|hb
 ·exact cI
 ·exact p3 a ha b hb
def qG (L:List af)(p value:List UInt8)(owner:Int):Int:=if bX p then (if 0<=EU (L.map (·.Path)) p then 7 else
  if (lq L (fB p).1).2=0 then (if (lq L (fB p).1).1.dw=0 then (if (1000:Int)<(value.length:Int) then 5 else if owner<0 then 1 else if (200:Int)<=(L.length:Int) then 9 else 0) else 10) else 6) else 13
def vi (L:List af)(p value:List UInt8)(owner:Int):List af×Int:=if qG L p value owner=0 then (Lc L ⟨p,value,0,owner⟩,0) else (L,qG L p value owner)
theorem SX {s:aC}(hs:rI s.L)(hl:s.L.length<2^40){p:List UInt8}(value:List UInt8)(owner:Int)(hp:bX p=true): im p (decide (0<=EU (s.L.map (·.Path)) p)) s value owner=some (qG s.L p value owner):=by
 unfold im qG;rw [wW,az,hp];simp only [Bool.not_true,Bool.false_eq_true,if_false,if_true];by_cases h0:0<=EU (s.L.map (·.Path)) p
 ·simp [h0]
 ·rw [decide_eq_false h0,if_neg (by decide),if_neg h0,MG,az,get_eq hs hl,az];show (if !decide ((lq s.L (fB p).1).2=0) then _ else _)=_;by_cases h1:(lq s.L (fB p).1).2=0
  ·rw [decide_eq_true h1,if_neg (by decide),if_pos h1];show (if !decide ((lq s.L (fB p).1).1.dw=0) then _ else _)=_;by_cases h2:(lq s.L (fB p).1).1.dw=0
   ·rw [decide_eq_true h2,if_neg (by decide),if_pos h2];by_cases h3:(1000:Int)<(value.length:Int)
    ·simp [h3]
    ·rw [if_neg h3,if_neg h3];by_cases h4:owner<0
     ·simp [h4]
     ·rw [if_neg h4,if_neg h4];by_cases h5:(200:Int)<=(s.L.length:Int)
      ·simp [h5]
      ·simp [h5]
   ·rw [decide_eq_false h2,if_pos (by decide),if_neg h2]
  ·rw [decide_eq_false h1,if_pos (by decide),if_neg h1]
theorem JV {L:List af}{p value:List UInt8}{owner:Int}(h:qG L p value owner=0):bX p=true/\ ¬0<=EU (L.map (·.Path)) p/\(lq L (fB p).1).2=0/\(lq L (fB p).1).1.dw=0/\value.length<=1000/\0<=owner/\L.length<200:=by
 unfold qG at h;cases hp:bX p with
 |false=>rw [hp] at h;simp at h
 |true=>
  rw [hp] at h;by_cases h0:0<=EU (L.map (·.Path)) p
  ·simp [h0] at h
  by_cases h1:(lq L (fB p).1).2=0;rotate_left
  ·simp [h0,h1] at h
  by_cases h2:(lq L (fB p).1).1.dw=0;rotate_left
  ·simp [h0,h1,h2] at h
  simp only [if_true,h0,if_false,h1,h2] at h;by_cases h3:(1000:Int)<(value.length:Int)
  ·simp [h3] at h
  by_cases h4:owner<0
  ·simp [h3,h4] at h
  by_cases h5:(200:Int)<=(L.length:Int)
  ·simp [h3,h4,h5] at h
  exact ⟨rfl,h0,h1,h2,by omega,by omega,by omega⟩
theorem amg {L:List af}{p:List UInt8}(h: ¬0<=EU (L.map (·.Path)) p): ∀n∈L,n.Path≠p:=by
 intro n hn he;apply h;unfold EU;cases hf:(L.map (·.Path)).findIdx? (λx=>decide (x=p)) with
 |some k=>simp
 |none=>rw [List.findIdx?_eq_none_iff] at hf;have:=hf n.Path (List.mem_map.2 ⟨n,hn,rfl⟩);simp [he] at this
theorem WL {s:aC}(hs:rI s.L)(hl:s.L.length<2^38)(p value:List UInt8)(owner:Int):mE s p value owner=some (⟨(vi s.L p value owner).1⟩,(vi s.L p value owner).2):=by
 unfold mE vi;cases hp:bX p with
 |false=>
  have he:qG s.L p value owner=13:=by unfold qG;rw [hp];rfl
  have hF: ∀b,im p b s value owner=some 13:=by intro b;unfold im;rw [wW,az,hp];rfl
  obtain ⟨rb,hrb⟩: ∃rb,eo s p=some rb:=by
   rw [QE];obtain ⟨i0,h1,h2,h3⟩:=JR hs (aT p);refine ⟨_,BP (L:=s.L) (t:=p) (cmp:=cm) (g:=λn=>if n.Path=p then 0 else if vX n.Path p then-1 else 1) (i0:=0) (by omega) (λn _=>JQ n p) (Nat.zero_le _) (λk hk h=>by omega) (λk hk _=> ?_)⟩;have:vX (s.L[k]).Path p=false:=by unfold vX;rw [hp];simp
   rw [this];split<;>simp
  rw [hrb,az,hF,az,he];rfl
 |true=>
  obtain ⟨i0,h1,h2,h3,h4,h5⟩:=QF hs (by omega) hp;obtain ⟨e1,e2⟩:=JU (q:=ltQ p) h1 h4 h5;rw [h2,az];dsimp only;rw [SX hs (by omega) value owner hp,az];by_cases he:qG s.L p value owner=0
  ·rw [decide_eq_true he,if_neg (by decide),if_pos he];unfold kC;rw [if_pos (by omega),az];unfold rZ;have:=JV he;rw [if_pos (by simp only [aaG,List.length_nil];refine ⟨by omega,?_,by simp,by omega⟩;rw [OF];exact h1),az];simp only [OF];unfold Lc;rw [e1,e2];simp
  ·rw [decide_eq_false he,if_pos (by decide),if_neg he]
def yO (L:List af)(p:List UInt8)(version:Int):Int:=if (dh L p).2=0/\version≠ -1/\version≠(lq L p).1.Version then 8 else (dh L p).2
theorem UQ {s:aC}(hs:rI s.L)(hl:s.L.length<2^40)(p:List UInt8)(version:Int):et s p version=some ((dh s.L p).1,yO s.L p version):=by
 unfold et yO;rw [find_eq hs hl,az];by_cases h:(dh s.L p).2=0
 ·obtain ⟨g1,g2⟩:=Ox h;rw [if_pos h];have hv:(lq s.L p).1=s.L[(dh s.L p).1.toNat]:=by unfold lq;rw [if_pos h,AI g2];rfl
  by_cases h1:version= -1
  ·simp [h1,h,az]
  ·rw [decide_eq_false h1,if_pos (by decide),EQ g1 g2,az,hv];by_cases h2:version=(s.L[(dh s.L p).1.toNat]).Version
   ·rw [decide_eq_true h2,if_neg (by decide),if_neg (by rintro ⟨_,_,h3⟩;exact h3 h2)]
   ·rw [decide_eq_false h2,if_pos (by decide),if_pos ⟨h,h1,h2⟩]
 ·rw [if_neg h,az,if_neg (by decide),if_neg (λh'=>h h'.1)]
theorem DQ {L:List af}{p:List UInt8}{version:Int}(h:yO L p version=0):(dh L p).2=0:=by
 unfold yO at h;split at h
 ·cases h
 ·exact h
def Qc (L:List af)(p value:List UInt8)(version:Int):Int:=if yO L p version=0 then (if (1000:Int)<(value.length:Int) then 5 else if (1000000000:Int)<=(lq L p).1.Version then 9 else 0) else yO L p version
def aa7 (x:af)(value:List UInt8):af:=⟨x.Path,value,x.Version+1,x.dw⟩
def DR (L:List af)(p value:List UInt8)(version:Int):List af×Int:=if Qc L p value version=0 then (L.set (dh L p).1.toNat (aa7 (lq L p).1 value),0) else (L,Qc L p value version)
theorem get_at {L:List af}{p:List UInt8}(h:(dh L p).2=0): ∃hi:(dh L p).1.toNat<L.length,(lq L p).1=L[(dh L p).1.toNat]/\(lq L p).1.Path=p/\0<=(dh L p).1:=by
 obtain ⟨g1,g2⟩:=Ox h;have hv:(lq L p).1=L[(dh L p).1.toNat]:=by unfold lq;rw [if_pos h,AI g2];rfl
 refine ⟨g2,hv,?_,g1⟩;obtain ⟨_,i,hi,e,hp⟩:=UM h;rw [hv];have:(dh L p).1.toNat=i:=by rw [e];rfl
 simp only [this];exact hp
theorem ahV {s:aC}(oT:kL s.L)(p value:List UInt8)(version:Int):wE s p value version=some (⟨(DR s.L p value version).1⟩,(DR s.L p value version).2):=by
 have hl:=oT.len;have hs:=oT.ord;unfold wE DR Qc;rw [UQ hs (by omega),az];dsimp only;by_cases h:yO s.L p version=0;rotate_left
 ·rw [decide_eq_false h,if_pos (by decide),if_neg h,if_neg h]
 obtain ⟨g2,hv,_,g1⟩:=get_at (DQ h);have hfl:=oT.yS _ (aaW g2);rw [decide_eq_true h,if_neg (by decide),if_pos h];by_cases h1:(1000:Int)<(value.length:Int)
 ·simp [h1]
 ·rw [if_neg h1,if_neg h1,EQ g1 g2,hv];by_cases h2:(1000000000:Int)<=(s.L[(dh s.L p).1.toNat]).Version
  ·rw [if_pos h2,if_pos h2];rfl
  ·rw [if_neg h2,if_neg h2];unfold kC;rw [if_pos (by omega),az,EQ g1 g2,EQ g1 (by rw [abK];exact g2),EQ g1 (by rw [abK];exact g2)];simp only [List.getElem_set_self,if_true,List.set_set];rw [wrap64 (by omega) (by omega)];rfl
def WM (L:List af)(p:List UInt8)(version:Int):Int:=if p=[47] then 13 else if yO L p version=0 then (if mu L p=[] then 0 else 10) else yO L p version
def Ot (L:List af)(p:List UInt8)(version:Int):List af×Int:=if WM L p version=0 then (L.take (dh L p).1.toNat++L.drop ((dh L p).1.toNat+1),0) else (L,WM L p version)
theorem WN {L:List af}(oT:kL L){p:List UInt8}(hp:bX p=true): ∀(m:Nat) {n:af},n∈L->(aT n.Path).length=m->kf (aT p) (aT n.Path)=true-> ∃k∈L,EV p k=true:=by
 intro m;induction m with
 |zero=>intro n hn hm hb;unfold kf at hb;simp only [aa6,decide_eq_true_eq] at hb;omega
 |succ m ih=>
  intro n hn hm hb;have hr:=oT.ord.1 n hn;by_cases h1:(aT n.Path).length=(aT p).length+1
  ·exact ⟨n,hn,(Ba hr hp).2 ⟨hb,h1⟩⟩
  ·have lr:n.Path≠[47]:=by intro e;rw [e,SV] at hm;simp at hm
   obtain ⟨x,hx,hxp,_⟩:=oT.grown n hn lr;have acR:(fB n.Path).1=vh (aT n.Path).dropLast:=by unfold fB;rw [hr];simp [lr]
   have sR:(aT n.Path).dropLast.all ra=true:=by obtain ⟨_,_,_,x4⟩:=iw hr;rw [List.all_eq_true] at x4⊢;exact λy hy=>x4 y (List.mem_of_mem_take (by rw [By] at hy;exact hy))
   have hnx:aT x.Path=(aT n.Path).dropLast:=by rw [hxp,acR,(JP sR).1]
   refine ih hx (by rw [hnx,IN];omega) ?_;unfold kf at hb⊢;simp only [aa6,decide_eq_true_eq] at hb⊢;rw [hnx,IN,By,List.take_take,Nat.min_eq_left (by omega)];exact ⟨by omega,hb.2⟩
theorem WO {L:List af}(oT:kL L){p:List UInt8}{i:Nat}(hi:i<L.length)(hp:(L[i]).Path=p):mu L p=[]↔ ∀h:i+1<L.length,rH p (L[i+1]).Path=false:=by
 have hs:=oT.ord;have Hp:bX p=true:=by rw [<-hp];exact kg hs hi
 constructor
 ·intro hk h;rw [Bool.eq_false_iff];intro hb;unfold rH at hb;rw [Hp,kg hs h] at hb;simp only [Bool.true_and] at hb;obtain ⟨k,hkm,hkk⟩:=WN oT Hp _ (aaW h) rfl hb;have:k∈L.filter (EV p):=List.mem_filter.2 ⟨hkm,hkk⟩;unfold mu at hk;rw [List.map_eq_nil_iff] at hk;rw [hk] at this;simp at this
 ·intro h;by_cases h1:i+1<L.length
  ·rw [<-QG hs hi hp h1 (by omega) (h h1),Cu hs hi hp]
  ·have:=Cu hs hi hp;rw [List.take_of_length_le (by omega)] at this;exact this
theorem del_eq {s:aC}(oT:kL s.L)(p:List UInt8)(version:Int):o6 s p version=some (⟨(Ot s.L p version).1⟩,(Ot s.L p version).2):=by
 have hl:=oT.len;have hs:=oT.ord;unfold o6 Ot WM;rw [UQ hs (by omega),az];dsimp only;by_cases hp:p=[47]
 ·rw [if_pos hp,if_pos hp];rfl
 rw [if_neg hp,if_neg hp];by_cases h:yO s.L p version=0;rotate_left
 ·rw [decide_eq_false h,if_pos (by decide),if_neg h,if_neg h]
 obtain ⟨g2,hv,hpa,g1⟩:=get_at (DQ h);rw [hv] at hpa;have hkn:=WO oT g2 hpa;rw [decide_eq_true h,if_neg (by decide),if_pos h];obtain ⟨i,pH⟩: ∃i:Nat,(dh s.L p).1=(i:Int):=⟨(dh s.L p).1.toNat,by omega⟩
 have rX:(dh s.L p).1.toNat=i:=by rw [pH];rfl
 simp only [rX] at g2 hkn hpa⊢;rw [pH,wrap64 (by omega) (by omega),show (i:Int)+1=((i+1:Nat):Int) by omega];have hw:(if ((i+1:Nat):Int)<(s.L.length:Int) then ix s.L ((i+1:Nat):Int) λy=>bd (nZ p y.Path) λaY=>some aY else some false)=some (!decide (mu s.L p=[])):=by
  by_cases h1:i+1<s.L.length
  ·rw [if_pos (by omega),b7 h1,QD,az];cases hb:rH p (s.L[i+1]).Path with
   |true=>rw [decide_eq_false (λhk=>by rw [hkn.1 hk h1] at hb;cases hb)];rfl
   |false=>rw [decide_eq_true (hkn.2 λ_=>hb)];rfl
  ·rw [if_neg (by omega),decide_eq_true (hkn.2 λh'=>absurd h' h1)];rfl
 rw [hw,az];by_cases hk:mu s.L p=[]
 ·rw [decide_eq_true hk,if_neg (by decide),if_pos hk];unfold kC;rw [if_pos (by omega),az];unfold AY;rw [if_pos ⟨by omega,by omega,by omega⟩,az];simp
 ·rw [decide_eq_false hk,if_pos (by decide),if_neg hk];rfl
end Dn.S
