import Derived.Test.YtbkodohojpchjaaGreatDoorDnPShelf7
/-
  Shelves: what a change comes to. Conditions: none.
-/
open Go Dn
set_option linter.unusedVariables false
set_option linter.unusedSimpArgs false
namespace Dn.S
def Wy (p:List UInt8) (n:ae):Bool:=mW (aK n.Path) (aK p)
theorem GG {q:ae→Bool} {L:List ae} {i:Nat} (hi:i≤L.length) (h1: ∀k (hk:k<L.length),k<i→q L[k]=true) (h2: ∀k (hk:k<L.length),i≤k→q L[k]=false):
 L.take i=L.takeWhile q∧L.drop i=L.dropWhile q:=by
 induction L generalizing i with
 |nil=>simp
 |cons a l ih=>
  cases i with
  |zero=>
   have:=h2 0 (by simp) (Nat.le_refl _)
   simp only [List.getElem_cons_zero] at this
   simp [List.takeWhile,List.dropWhile,this]
  |succ i=>
   have:=h1 0 (by simp) (by omega)
   simp only [List.getElem_cons_zero] at this
   obtain ⟨e1,e2⟩:=ih (i:=i) (by simpa using hi) (fun k hk Yk=>by have:=h1 (k+1) (by simpa using hk) (by omega);rwa [List.getElem_cons_succ] at this) (fun k hk Yk=>by have:=h2 (k+1) (by simpa using hk) (by omega);rwa [List.getElem_cons_succ] at this)
   simp [List.takeWhile,List.dropWhile,this,e1,e2]
def HM (L:List ae) (n:ae):List ae:=L.takeWhile (Wy n.Path)++n::L.dropWhile (Wy n.Path)
theorem QM {L:List ae} {n m:ae}:m∈HM L n↔m=n∨m∈L:=by
 unfold HM
 conv=>rhs;rhs;rw [←List.takeWhile_append_dropWhile (p:=Wy n.Path) (l:=L)]
 simp only [List.mem_append,List.mem_cons]
 constructor
 ·rintro (h|h|h)
  ·exact .inr (.inl h)
  ·exact .inl h
  ·exact .inr (.inr h)
 ·rintro (h|h|h)
  ·exact .inr (.inl h)
  ·exact .inl h
  ·exact .inr (.inr h)
theorem ZJ (L:List ae) (n:ae):(HM L n).length=L.length+1:=by
 unfold HM
 have:=congrArg List.length (List.takeWhile_append_dropWhile (p:=Wy n.Path) (l:=L))
 rw [List.length_append] at this
 rw [List.length_append,List.length_cons];omega
theorem SD {α:Type} {q:α→Bool} {l:List α} {x:α} (h:x∈l.takeWhile q):x∈l∧q x=true:=by
 induction l with
 |nil=>simp at h
 |cons a l ih=>
  cases ha:q a with
  |false=>simp [List.takeWhile,ha] at h
  |true=>
   simp only [List.takeWhile,ha,List.mem_cons] at h
   rcases h with rfl|h
   ·exact ⟨by simp,ha⟩
   ·exact ⟨by simp [(ih h).1],(ih h).2⟩
theorem ZK {L:List ae} (hs:nY L) {n:ae} (hn:bm n.Path=true) (kG: ∀m∈L,m.Path≠n.Path):nY (HM L n):=by
 refine ⟨fun m hm=> ?_,?_⟩
 ·rcases QM.1 hm with rfl|h
  ·exact hn
  ·exact hs.1 m h
 have hpw:(L.takeWhile (Wy n.Path)++L.dropWhile (Wy n.Path)).Pairwise fun a b=>mW (aK a.Path) (aK b.Path)=true:=by
  rw [List.takeWhile_append_dropWhile];exact hs.2
 rw [List.pairwise_append] at hpw
 obtain ⟨p1,p2,p3⟩:=hpw
 have hdr: ∀m∈L.dropWhile (Wy n.Path),mW (aK n.Path) (aK m.Path)=true:=by
  intro m hm
  have hmL:m∈L:=List.dropWhile_subset _ hm
  have dn:Wy n.Path m=false:=by
   obtain ⟨i0,h1,h2,h3⟩:=GC hs (aK n.Path)
   have e:=(GG (q:=Wy n.Path) h1 h2 h3).2
   rw [←e] at hm
   obtain ⟨k,hk,rfl⟩:=List.mem_iff_getElem.1 hm
   rw [List.length_drop] at hk
   rw [List.getElem_drop]
   exact h3 (i0+k) (by omega) (by omega)
  unfold Wy at dn
  rcases ZD (aK m.Path) (aK n.Path) with h|h|h
  ·rw [h] at dn;cases dn
  ·exact absurd (Sy (ea (hs.1 m hmL)).2.1 (ea hn).2.1 h) (kG m hmL)
  ·exact h
 unfold HM
 rw [List.pairwise_append]
 refine ⟨p1,List.pairwise_cons.2 ⟨hdr,p2⟩,?_⟩
 intro a ha b hb
 have dn:mW (aK a.Path) (aK n.Path)=true:=(SD ha).2
 rcases List.mem_cons.1 hb with rfl|hb
 ·exact dn
 ·exact p3 a ha b hb
def pa (L:List ae) (p value:List UInt8) (owner:Int):Int:=
 if bm p then (if 0≤qg (L.map (·.Path)) p then 7 else
  if (kl L (cM p).1).2=0 then (if (kl L (cM p).1).1.bJ=0 then (if (1000:Int)<(value.length:Int) then 5 else if owner<0 then 1 else if (200:Int)≤(L.length:Int) then 9 else 0) else 10) else 6) else 13
def tg (L:List ae) (p value:List UInt8) (owner:Int):List ae×Int:=if pa L p value owner=0 then (HM L ⟨p,value,0,owner⟩,0) else (L,pa L p value owner)
theorem Pm {s:ax} (hs:nY s.L) (hl:s.L.length<2^40) {p:List UInt8} (value:List UInt8) (owner:Int) (hp:bm p=true):
 gz p (decide (0≤qg (s.L.map (·.Path)) p)) s value owner=some (pa s.L p value owner):=by
 unfold gz pa
 rw [uN,aA,hp]
 simp only [Bool.not_true,Bool.false_eq_true,if_false,if_true]
 by_cases h0:0≤qg (s.L.map (·.Path)) p
 ·simp [h0]
 ·rw [decide_eq_false h0,if_neg (by decide),if_neg h0,Jj,aA,get_eq hs hl,aA]
  show (if !decide ((kl s.L (cM p).1).2=0) then _ else _)=_
  by_cases h1:(kl s.L (cM p).1).2=0
  ·rw [decide_eq_true h1,if_neg (by decide),if_pos h1]
   show (if !decide ((kl s.L (cM p).1).1.bJ=0) then _ else _)=_
   by_cases h2:(kl s.L (cM p).1).1.bJ=0
   ·rw [decide_eq_true h2,if_neg (by decide),if_pos h2]
    by_cases h3:(1000:Int)<(value.length:Int)
    ·simp [h3]
    ·rw [if_neg h3,if_neg h3]
     by_cases h4:owner<0
     ·simp [h4]
     ·rw [if_neg h4,if_neg h4]
      by_cases h5:(200:Int)≤(s.L.length:Int)
      ·simp [h5]
      ·simp [h5]
   ·rw [decide_eq_false h2,if_pos (by decide),if_neg h2]
  ·rw [decide_eq_false h1,if_pos (by decide),if_neg h1]
theorem GH {L:List ae} {p value:List UInt8} {owner:Int} (h:pa L p value owner=0):bm p=true∧ ¬0≤qg (L.map (·.Path)) p∧(kl L (cM p).1).2=0∧(kl L (cM p).1).1.bJ=0∧value.length≤1000∧0≤owner∧L.length<200:=by
 unfold pa at h
 cases hp:bm p with
 |false=>rw [hp] at h;simp at h
 |true=>
  rw [hp] at h
  by_cases h0:0≤qg (L.map (·.Path)) p
  ·simp [h0] at h
  by_cases h1:(kl L (cM p).1).2=0
  rotate_left
  ·simp [h0,h1] at h
  by_cases h2:(kl L (cM p).1).1.bJ=0
  rotate_left
  ·simp [h0,h1,h2] at h
  simp only [if_true,h0,if_false,h1,h2] at h
  by_cases h3:(1000:Int)<(value.length:Int)
  ·simp [h3] at h
  by_cases h4:owner<0
  ·simp [h3,h4] at h
  by_cases h5:(200:Int)≤(L.length:Int)
  ·simp [h3,h4,h5] at h
  exact ⟨rfl,h0,h1,h2,by omega,by omega,by omega⟩
theorem ag6 {L:List ae} {p:List UInt8} (h: ¬0≤qg (L.map (·.Path)) p): ∀n∈L,n.Path≠p:=by
 intro n hn he
 apply h
 unfold qg
 cases hf:(L.map (·.Path)).findIdx? (fun x=>decide (x=p)) with
 |some k=>simp
 |none=>
  rw [List.findIdx?_eq_none_iff] at hf
  have:=hf n.Path (List.mem_map.2 ⟨n,hn,rfl⟩)
  simp [he] at this
theorem SE {s:ax} (hs:nY s.L) (hl:s.L.length<2^38) (p value:List UInt8) (owner:Int):lu s p value owner=some (⟨(tg s.L p value owner).1⟩,(tg s.L p value owner).2):=by
 unfold lu tg
 cases hp:bm p with
 |false=>
  have he:pa s.L p value owner=13:=by unfold pa;rw [hp];rfl
  have hF: ∀b,gz p b s value owner=some 13:=by
   intro b
   unfold gz
   rw [uN,aA,hp];rfl
  obtain ⟨rb,hrb⟩: ∃rb,eg s p=some rb:=by
   rw [MW]
   obtain ⟨i0,h1,h2,h3⟩:=GC hs (aK p)
   refine ⟨_,zI (L:=s.L) (t:=p) (cmp:=cg) (g:=fun n=>if n.Path=p then 0 else if lf n.Path p then-1 else 1) (i0:=0) (by omega) (fun n _=>GB n p) (Nat.zero_le _) (fun k hk h=>by omega) (fun k hk _=> ?_)⟩
   have:lf (s.L[k]).Path p=false:=by unfold lf;rw [hp];simp
   rw [this];split<;>simp
  rw [hrb,aA,hF,aA,he]
  rfl
 |true=>
  obtain ⟨i0,h1,h2,h3,h4,h5⟩:=MX hs (by omega) hp
  obtain ⟨e1,e2⟩:=GG (q:=Wy p) h1 h4 h5
  rw [h2,aA]
  dsimp only
  rw [Pm hs (by omega) value owner hp,aA]
  by_cases he:pa s.L p value owner=0
  ·rw [decide_eq_true he,if_neg (by decide),if_pos he]
   unfold jE
   rw [if_pos (by omega),aA]
   unfold qx
   have:=GH he
   rw [if_pos (by simp only [List.length_cons,List.length_nil];refine ⟨by omega,?_,by simp,by omega⟩;rw [Int.toNat_natCast];exact h1),aA]
   simp only [Int.toNat_natCast]
   unfold HM
   rw [e1,e2]
   simp
  ·rw [decide_eq_false he,if_pos (by decide),if_neg he]
def wJ (L:List ae) (p:List UInt8) (version:Int):Int:=if (cV L p).2=0∧version≠ -1∧version≠(kl L p).1.Version then 8 else (cV L p).2
theorem QN {s:ax} (hs:nY s.L) (hl:s.L.length<2^40) (p:List UInt8) (version:Int):eh s p version=some ((cV s.L p).1,wJ s.L p version):=by
 unfold eh wJ
 rw [find_eq hs hl,aA]
 by_cases h:(cV s.L p).2=0
 ·obtain ⟨g1,g2⟩:=KR h
  rw [if_pos h]
  have hv:(kl s.L p).1=s.L[(cV s.L p).1.toNat]:=by unfold kl;rw [if_pos h,List.getElem?_eq_getElem g2];rfl
  by_cases h1:version= -1
  ·simp [h1,h,aA]
  ·rw [decide_eq_false h1,if_pos (by decide),Am g1 g2,aA,hv]
   by_cases h2:version=(s.L[(cV s.L p).1.toNat]).Version
   ·rw [decide_eq_true h2,if_neg (by decide),if_neg (by rintro ⟨_,_,h3⟩;exact h3 h2)]
   ·rw [decide_eq_false h2,if_pos (by decide),if_pos ⟨h,h1,h2⟩]
 ·rw [if_neg h,aA,if_neg (by decide),if_neg (fun h'=>h h'.1)]
theorem BD {L:List ae} {p:List UInt8} {version:Int} (h:wJ L p version=0):(cV L p).2=0:=by
 unfold wJ at h
 split at h
 ·cases h
 ·exact h
def SF (L:List ae) (p value:List UInt8) (version:Int):Int:=if wJ L p version=0 then (if (1000:Int)<(value.length:Int) then 5 else if (1000000000:Int)≤(kl L p).1.Version then 9 else 0) else wJ L p version
def Wz (x:ae) (value:List UInt8):ae:=⟨x.Path,value,x.Version+1,x.bJ⟩
def BE (L:List ae) (p value:List UInt8) (version:Int):List ae×Int:=if SF L p value version=0 then (L.set (cV L p).1.toNat (Wz (kl L p).1 value),0) else (L,SF L p value version)
theorem get_at {L:List ae} {p:List UInt8} (h:(cV L p).2=0): ∃hi:(cV L p).1.toNat<L.length,(kl L p).1=L[(cV L p).1.toNat]∧(kl L p).1.Path=p∧0≤(cV L p).1:=by
 obtain ⟨g1,g2⟩:=KR h
 have hv:(kl L p).1=L[(cV L p).1.toNat]:=by unfold kl;rw [if_pos h,List.getElem?_eq_getElem g2];rfl
 refine ⟨g2,hv,?_,g1⟩
 obtain ⟨_,i,hi,e,hp⟩:=QJ h
 rw [hv]
 have:(cV L p).1.toNat=i:=by rw [e];rfl
 simp only [this];exact hp
theorem ac7 {s:ax} (lq:iW s.L) (p value:List UInt8) (version:Int):ur s p value version=some (⟨(BE s.L p value version).1⟩,(BE s.L p value version).2):=by
 have hl:=lq.len
 have hs:=lq.ord
 unfold ur BE SF
 rw [QN hs (by omega),aA]
 dsimp only
 by_cases h:wJ s.L p version=0
 rotate_left
 ·rw [decide_eq_false h,if_pos (by decide),if_neg h,if_neg h]
 obtain ⟨g2,hv,_,g1⟩:=get_at (BD h)
 have hfl:=lq.yV _ (List.getElem_mem g2)
 rw [decide_eq_true h,if_neg (by decide),if_pos h]
 by_cases h1:(1000:Int)<(value.length:Int)
 ·simp [h1]
 ·rw [if_neg h1,if_neg h1,Am g1 g2,hv]
  by_cases h2:(1000000000:Int)≤(s.L[(cV s.L p).1.toNat]).Version
  ·rw [if_pos h2,if_pos h2];rfl
  ·rw [if_neg h2,if_neg h2]
   unfold jE
   rw [if_pos (by omega),aA,Am g1 g2,Am g1 (by rw [List.length_set];exact g2),Am g1 (by rw [List.length_set];exact g2)]
   simp only [List.getElem_set_self,if_true,List.set_set]
   rw [wrap64 (by omega) (by omega)];rfl
def SG (L:List ae) (p:List UInt8) (version:Int):Int:=if p=[47] then 13 else if wJ L p version=0 then (if lg L p=[] then 0 else 10) else wJ L p version
def Pn (L:List ae) (p:List UInt8) (version:Int):List ae×Int:=if SG L p version=0 then (L.take (cV L p).1.toNat++L.drop ((cV L p).1.toNat+1),0) else (L,SG L p version)
theorem SH {L:List ae} (lq:iW L) {p:List UInt8} (hp:bm p=true): ∀(m:Nat) {n:ae},n∈L→(aK n.Path).length=m→jm (aK p) (aK n.Path)=true→ ∃k∈L,CB p k=true:=by
 intro m
 induction m with
 |zero=>
  intro n hn hm hb
  unfold jm at hb
  simp only [Bool.and_eq_true,decide_eq_true_eq] at hb
  omega
 |succ m ih=>
  intro n hn hm hb
  have hr:=lq.ord.1 n hn
  by_cases h1:(aK n.Path).length=(aK p).length+1
  ·exact ⟨n,hn,(yR hr hp).2 ⟨hb,h1⟩⟩
  ·have ko:n.Path≠[47]:=by
    intro e
    rw [e,GF] at hm;simp at hm
   obtain ⟨x,hx,hxp,_⟩:=lq.grown n hn ko
   have UP:(cM n.Path).1=pP (aK n.Path).dropLast:=by
    unfold cM
    rw [hr];simp [ko]
   have mb:(aK n.Path).dropLast.all kb=true:=by
    obtain ⟨_,_,_,x4⟩:=ea hr
    rw [List.all_eq_true] at x4⊢
    exact fun y hy=>x4 y (List.mem_of_mem_take (by rw [List.dropLast_eq_take] at hy;exact hy))
   have hnx:aK x.Path=(aK n.Path).dropLast:=by rw [hxp,UP,(Gz mb).1]
   refine ih hx (by rw [hnx,List.length_dropLast];omega) ?_
   unfold jm at hb⊢
   simp only [Bool.and_eq_true,decide_eq_true_eq] at hb⊢
   rw [hnx,List.length_dropLast,List.dropLast_eq_take,List.take_take,Nat.min_eq_left (by omega)]
   exact ⟨by omega,hb.2⟩
theorem SI {L:List ae} (lq:iW L) {p:List UInt8} {i:Nat} (hi:i<L.length) (hp:(L[i]).Path=p):lg L p=[]↔ ∀h:i+1<L.length,qf p (L[i+1]).Path=false:=by
 have hs:=lq.ord
 have EB:bm p=true:=by rw [←hp];exact dP hs hi
 constructor
 ·intro hk h
  rw [Bool.eq_false_iff]
  intro hb
  unfold qf at hb
  rw [EB,dP hs h] at hb
  simp only [Bool.true_and] at hb
  obtain ⟨k,hkm,Xi⟩:=SH lq EB _ (List.getElem_mem h) rfl hb
  have:k∈L.filter (CB p):=List.mem_filter.2 ⟨hkm,Xi⟩
  unfold lg at hk
  rw [List.map_eq_nil_iff] at hk
  rw [hk] at this;simp at this
 ·intro h
  by_cases h1:i+1<L.length
  ·rw [←MY hs hi hp h1 (by omega) (h h1),Aq hs hi hp]
  ·have:=Aq hs hi hp
   rw [List.take_of_length_le (by omega)] at this
   exact this
theorem del_eq {s:ax} (lq:iW s.L) (p:List UInt8) (version:Int):ny s p version=some (⟨(Pn s.L p version).1⟩,(Pn s.L p version).2):=by
 have hl:=lq.len
 have hs:=lq.ord
 unfold ny Pn SG
 rw [QN hs (by omega),aA]
 dsimp only
 by_cases hp:p=[47]
 ·rw [if_pos hp,if_pos hp];rfl
 rw [if_neg hp,if_neg hp]
 by_cases h:wJ s.L p version=0
 rotate_left
 ·rw [decide_eq_false h,if_pos (by decide),if_neg h,if_neg h]
 obtain ⟨g2,hv,hpa,g1⟩:=get_at (BD h)
 rw [hv] at hpa
 have YP:=SI lq g2 hpa
 rw [decide_eq_true h,if_neg (by decide),if_pos h]
 obtain ⟨i,nU⟩: ∃i:Nat,(cV s.L p).1=(i:Int):=⟨(cV s.L p).1.toNat,by omega⟩
 have sa:(cV s.L p).1.toNat=i:=by rw [nU];rfl
 simp only [sa] at g2 YP hpa⊢
 rw [nU,wrap64 (by omega) (by omega),show (i:Int)+1=((i+1:Nat):Int) by omega]
 have hw:(if ((i+1:Nat):Int)<(s.L.length:Int) then ix s.L ((i+1:Nat):Int) fun y=>bd (mP p y.Path) fun aX=>some aX else some false)=some (!decide (lg s.L p=[])):=by
  by_cases h1:i+1<s.L.length
  ·rw [if_pos (by omega),bt h1,MP,aA]
   cases hb:qf p (s.L[i+1]).Path with
   |true=>rw [decide_eq_false (fun hk=>by rw [YP.1 hk h1] at hb;cases hb)];rfl
   |false=>rw [decide_eq_true (YP.2 fun _=>hb)];rfl
  ·rw [if_neg (by omega),decide_eq_true (YP.2 fun h'=>absurd h' h1)];rfl
 rw [hw,aA]
 by_cases hk:lg s.L p=[]
 ·rw [decide_eq_true hk,if_neg (by decide),if_pos hk]
  unfold jE
  rw [if_pos (by omega),aA]
  unfold yw
  rw [if_pos ⟨by omega,by omega,by omega⟩,aA]
  simp
 ·rw [decide_eq_false hk,if_pos (by decide),if_neg hk];rfl
end Dn.S
