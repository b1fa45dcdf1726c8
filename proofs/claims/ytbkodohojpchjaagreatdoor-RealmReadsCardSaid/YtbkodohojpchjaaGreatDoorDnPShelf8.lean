import Derived.Test.YtbkodohojpchjaaGreatDoorDnPShelf7
/-
  Shelves: what a change comes to. Conditions: none.
-/
open Go Dn
set_option linter.unusedVariables false
set_option linter.unusedSimpArgs false
namespace Dn.S
theorem get_mem {L:List ae} (hs:nl L) {n:ae} (h:n∈L):dI L n.Path=(n,0):=by
 obtain ⟨i,hi,rfl⟩:=List.mem_iff_getElem.1 h
 exact Sj hs hi
theorem Y5 {L:List ae} {q:List UInt8} (h: ∀n∈L,n.Path≠q):dI L q=(V2,if bk q then 6 else 13):=by
 unfold dI cg
 cases hq:bk q with
 |false=>rfl
 |true=>
  have:pJ (L.map (·.Path)) q= -1:=My (fun x hx=>by
   obtain ⟨n,hn,rfl⟩:=List.mem_map.1 hx
   exact h n hn)
  rw [this];rfl
theorem V6 (L:List ae) (p:List UInt8):(cg L p).2=0∨(cg L p).2=6∨(cg L p).2=13:=by
 unfold cg
 cases bk p
 ·simp
 ·by_cases h:0≤pJ (L.map (·.Path)) p<;>simp [h]
def V7 (p:List UInt8) (n:ae):Bool:=mU (aL n.Path) (aL p)
theorem GG {q:ae→Bool} {L:List ae} {i:Nat} (hi:i≤L.length) (h1: ∀k (hk:k<L.length),k<i→q L[k]=true) (h2: ∀k (hk:k<L.length),i≤k→q L[k]=false):
 L.take i=L.takeWhile q∧L.drop i=L.dropWhile q:=by
 induction L generalizing i with
 |nil=>simp
 |cons a l ih=>
  cases i with
  |zero=>
   have:=h2 0 (by simp) (Nat.le_refl _)
   simp only [List.getElem_cons_zero] at this
   simp [List.takeWhile,List.dropWhile,this]
  |succ i=>
   have:=h1 0 (by simp) (by omega)
   simp only [List.getElem_cons_zero] at this
   obtain ⟨e1,e2⟩:=ih (i:=i) (by simpa using hi) (fun k hk XW=>by have:=h1 (k+1) (by simpa using hk) (by omega);rwa [List.getElem_cons_succ] at this) (fun k hk XW=>by have:=h2 (k+1) (by simpa using hk) (by omega);rwa [List.getElem_cons_succ] at this)
   simp [List.takeWhile,List.dropWhile,this,e1,e2]
def HK (L:List ae) (n:ae):List ae:=L.takeWhile (V7 n.Path)++n::L.dropWhile (V7 n.Path)
theorem Qm {L:List ae} {n m:ae}:m∈HK L n↔m=n∨m∈L:=by
 unfold HK
 conv=>rhs;rhs;rw [←List.takeWhile_append_dropWhile (p:=V7 n.Path) (l:=L)]
 simp only [List.mem_append,List.mem_cons]
 constructor
 ·rintro (h|h|h)
  ·exact .inr (.inl h)
  ·exact .inl h
  ·exact .inr (.inr h)
 ·rintro (h|h|h)
  ·exact .inr (.inl h)
  ·exact .inl h
  ·exact .inr (.inr h)
theorem Y6 (L:List ae) (n:ae):(HK L n).length=L.length+1:=by
 unfold HK
 have:=congrArg List.length (List.takeWhile_append_dropWhile (p:=V7 n.Path) (l:=L))
 rw [List.length_append] at this
 rw [List.length_append,List.length_cons];omega
theorem Sk {α:Type} {q:α→Bool} {l:List α} {x:α} (h:x∈l.takeWhile q):x∈l∧q x=true:=by
 induction l with
 |nil=>simp at h
 |cons a l ih=>
  cases ha:q a with
  |false=>simp [List.takeWhile,ha] at h
  |true=>
   simp only [List.takeWhile,ha,List.mem_cons] at h
   rcases h with rfl|h
   ·exact ⟨by simp,ha⟩
   ·exact ⟨by simp [(ih h).1],(ih h).2⟩
theorem Y7 {L:List ae} (hs:nl L) {n:ae} (hn:bk n.Path=true) (kF: ∀m∈L,m.Path≠n.Path):nl (HK L n):=by
 refine ⟨fun m hm=> ?_,?_⟩
 ·rcases Qm.1 hm with rfl|h
  ·exact hn
  ·exact hs.1 m h
 have hpw:(L.takeWhile (V7 n.Path)++L.dropWhile (V7 n.Path)).Pairwise fun a b=>mU (aL a.Path) (aL b.Path)=true:=by
  rw [List.takeWhile_append_dropWhile];exact hs.2
 rw [List.pairwise_append] at hpw
 obtain ⟨p1,p2,p3⟩:=hpw
 have hdr: ∀m∈L.dropWhile (V7 n.Path),mU (aL n.Path) (aL m.Path)=true:=by
  intro m hm
  have hmL:m∈L:=List.dropWhile_subset _ hm
  have da:V7 n.Path m=false:=by
   obtain ⟨i0,h1,h2,h3⟩:=GC hs (aL n.Path)
   have e:=(GG (q:=V7 n.Path) h1 h2 h3).2
   rw [←e] at hm
   obtain ⟨k,hk,rfl⟩:=List.mem_iff_getElem.1 hm
   rw [List.length_drop] at hk
   rw [List.getElem_drop]
   exact h3 (i0+k) (by omega) (by omega)
  unfold V7 at da
  rcases YZ (aL m.Path) (aL n.Path) with h|h|h
  ·rw [h] at da;cases da
  ·exact absurd (Se (dU (hs.1 m hmL)).2.1 (dU hn).2.1 h) (kF m hmL)
  ·exact h
 unfold HK
 rw [List.pairwise_append]
 refine ⟨p1,List.pairwise_cons.2 ⟨hdr,p2⟩,?_⟩
 intro a ha b hb
 have da:mU (aL a.Path) (aL n.Path)=true:=(Sk ha).2
 rcases List.mem_cons.1 hb with rfl|hb
 ·exact da
 ·exact p3 a ha b hb
def o4 (L:List ae) (p value:List UInt8) (owner:Int):Int:=
 if bk p then (if 0≤pJ (L.map (·.Path)) p then 7 else
  if (dI L (cJ p).1).2=0 then (if (dI L (cJ p).1).1.bI=0 then (if (1000:Int)<(value.length:Int) then 5 else if owner<0 then 1 else if (200:Int)≤(L.length:Int) then 9 else 0) else 10) else 6) else 13
def s5 (L:List ae) (p value:List UInt8) (owner:Int):List ae×Int:=if o4 L p value owner=0 then (HK L ⟨p,value,0,owner⟩,0) else (L,o4 L p value owner)
theorem O0 {s:ay} (hs:nl s.L) (hl:s.L.length<2^40) {p:List UInt8} (value:List UInt8) (owner:Int) (hp:bk p=true):
 gu p (decide (0≤pJ (s.L.map (·.Path)) p)) s value owner=some (o4 s.L p value owner):=by
 unfold gu o4
 rw [uC,aC,hp]
 simp only [Bool.not_true,Bool.false_eq_true,if_false,if_true]
 by_cases h0:0≤pJ (s.L.map (·.Path)) p
 ·simp [h0]
 ·rw [decide_eq_false h0,if_neg (by decide),if_neg h0,Ja,aC,get_eq hs hl,aC]
  show (if !decide ((dI s.L (cJ p).1).2=0) then _ else _)=_
  by_cases h1:(dI s.L (cJ p).1).2=0
  ·rw [decide_eq_true h1,if_neg (by decide),if_pos h1]
   show (if !decide ((dI s.L (cJ p).1).1.bI=0) then _ else _)=_
   by_cases h2:(dI s.L (cJ p).1).1.bI=0
   ·rw [decide_eq_true h2,if_neg (by decide),if_pos h2]
    by_cases h3:(1000:Int)<(value.length:Int)
    ·simp [h3]
    ·rw [if_neg h3,if_neg h3]
     by_cases h4:owner<0
     ·simp [h4]
     ·rw [if_neg h4,if_neg h4]
      by_cases h5:(200:Int)≤(s.L.length:Int)
      ·simp [h5]
      ·simp [h5]
   ·rw [decide_eq_false h2,if_pos (by decide),if_neg h2]
  ·rw [decide_eq_false h1,if_pos (by decide),if_neg h1]
theorem GH {L:List ae} {p value:List UInt8} {owner:Int} (h:o4 L p value owner=0):bk p=true∧ ¬0≤pJ (L.map (·.Path)) p∧(dI L (cJ p).1).2=0∧(dI L (cJ p).1).1.bI=0∧value.length≤1000∧0≤owner∧L.length<200:=by
 unfold o4 at h
 cases hp:bk p with
 |false=>rw [hp] at h;simp at h
 |true=>
  rw [hp] at h
  by_cases h0:0≤pJ (L.map (·.Path)) p
  ·simp [h0] at h
  by_cases h1:(dI L (cJ p).1).2=0
  rotate_left
  ·simp [h0,h1] at h
  by_cases h2:(dI L (cJ p).1).1.bI=0
  rotate_left
  ·simp [h0,h1,h2] at h
  simp only [if_true,h0,if_false,h1,h2] at h
  by_cases h3:(1000:Int)<(value.length:Int)
  ·simp [h3] at h
  by_cases h4:owner<0
  ·simp [h3,h4] at h
  by_cases h5:(200:Int)≤(L.length:Int)
  ·simp [h3,h4,h5] at h
  exact ⟨rfl,h0,h1,h2,by omega,by omega,by omega⟩
theorem ag1 {L:List ae} {p:List UInt8} (h: ¬0≤pJ (L.map (·.Path)) p): ∀n∈L,n.Path≠p:=by
 intro n hn he
 apply h
 unfold pJ
 cases hf:(L.map (·.Path)).findIdx? (fun x=>decide (x=p)) with
 |some k=>simp
 |none=>
  rw [List.findIdx?_eq_none_iff] at hf
  have:=hf n.Path (List.mem_map.2 ⟨n,hn,rfl⟩)
  simp [he] at this
theorem Sl {s:ay} (hs:nl s.L) (hl:s.L.length<2^38) (p value:List UInt8) (owner:Int):lz s p value owner=some (⟨(s5 s.L p value owner).1⟩,(s5 s.L p value owner).2):=by
 unfold lz s5
 cases hp:bk p with
 |false=>
  have he:o4 s.L p value owner=13:=by unfold o4;rw [hp];rfl
  have hF: ∀b,gu p b s value owner=some 13:=by
   intro b
   unfold gu
   rw [uC,aC,hp];rfl
  obtain ⟨rb,hrb⟩: ∃rb,dY s p=some rb:=by
   rw [MB]
   obtain ⟨i0,h1,h2,h3⟩:=GC hs (aL p)
   refine ⟨_,zt (L:=s.L) (t:=p) (cmp:=cf) (g:=fun n=>if n.Path=p then 0 else if lf n.Path p then-1 else 1) (i0:=0) (by omega) (fun n _=>GB n p) (Nat.zero_le _) (fun k hk h=>by omega) (fun k hk _=> ?_)⟩
   have:lf (s.L[k]).Path p=false:=by unfold lf;rw [hp];simp
   rw [this];split<;>simp
  rw [hrb,aC,hF,aC,he]
  rfl
 |true=>
  obtain ⟨i0,h1,h2,h3,h4,h5⟩:=MC hs (by omega) hp
  obtain ⟨e1,e2⟩:=GG (q:=V7 p) h1 h4 h5
  rw [h2,aC]
  dsimp only
  rw [O0 hs (by omega) value owner hp,aC]
  by_cases he:o4 s.L p value owner=0
  ·rw [decide_eq_true he,if_neg (by decide),if_pos he]
   unfold jB
   rw [if_pos (by omega),aC]
   unfold qo
   have:=GH he
   rw [if_pos (by simp only [List.length_cons,List.length_nil];refine ⟨by omega,?_,by simp,by omega⟩;rw [Int.toNat_natCast];exact h1),aC]
   simp only [Int.toNat_natCast]
   unfold HK
   rw [e1,e2]
   simp
  ·rw [decide_eq_false he,if_pos (by decide),if_neg he]
def s6 (L:List ae) (p:List UInt8) (version:Int):Int:=if (cg L p).2=0∧version≠ -1∧version≠(dI L p).1.Version then 8 else (cg L p).2
theorem Qn {s:ay} (hs:nl s.L) (hl:s.L.length<2^40) (p:List UInt8) (version:Int):dZ s p version=some ((cg s.L p).1,s6 s.L p version):=by
 unfold dZ s6
 rw [find_eq hs hl,aC]
 by_cases h:(cg s.L p).2=0
 ·obtain ⟨g1,g2⟩:=KB h
  rw [if_pos h]
  have hv:(dI s.L p).1=s.L[(cg s.L p).1.toNat]:=by unfold dI;rw [if_pos h,List.getElem?_eq_getElem g2];rfl
  by_cases h1:version= -1
  ·simp [h1,h,aC]
  ·rw [decide_eq_false h1,if_pos (by decide),zY g1 g2,aC,hv]
   by_cases h2:version=(s.L[(cg s.L p).1.toNat]).Version
   ·rw [decide_eq_true h2,if_neg (by decide),if_neg (by rintro ⟨_,_,h3⟩;exact h3 h2)]
   ·rw [decide_eq_false h2,if_pos (by decide),if_pos ⟨h,h1,h2⟩]
 ·rw [if_neg h,aC,if_neg (by decide),if_neg (fun h'=>h h'.1)]
theorem Br {L:List ae} {p:List UInt8} {version:Int} (h:s6 L p version=0):(cg L p).2=0:=by
 unfold s6 at h
 split at h
 ·cases h
 ·exact h
def Bs (L:List ae) (p value:List UInt8) (version:Int):Int:=if s6 L p version=0 then (if (1000:Int)<(value.length:Int) then 5 else if (1000000000:Int)≤(dI L p).1.Version then 9 else 0) else s6 L p version
def KD (x:ae) (value:List UInt8):ae:=⟨x.Path,value,x.Version+1,x.bI⟩
def gZ (L:List ae) (p value:List UInt8) (version:Int):List ae×Int:=if Bs L p value version=0 then (L.set (cg L p).1.toNat (KD (dI L p).1 value),0) else (L,Bs L p value version)
theorem get_at {L:List ae} {p:List UInt8} (h:(cg L p).2=0): ∃hi:(cg L p).1.toNat<L.length,(dI L p).1=L[(cg L p).1.toNat]∧(dI L p).1.Path=p∧0≤(cg L p).1:=by
 obtain ⟨g1,g2⟩:=KB h
 have hv:(dI L p).1=L[(cg L p).1.toNat]:=by unfold dI;rw [if_pos h,List.getElem?_eq_getElem g2];rfl
 refine ⟨g2,hv,?_,g1⟩
 obtain ⟨_,i,hi,e,hp⟩:=KC h
 rw [hv]
 have:(cg L p).1.toNat=i:=by rw [e];rfl
 simp only [this];exact hp
theorem acD {s:ay} (lr:gO s.L) (p value:List UInt8) (version:Int):uj s p value version=some (⟨(gZ s.L p value version).1⟩,(gZ s.L p value version).2):=by
 have hl:=lr.len
 have hs:=lr.ord
 unfold uj gZ Bs
 rw [Qn hs (by omega),aC]
 dsimp only
 by_cases h:s6 s.L p version=0
 rotate_left
 ·rw [decide_eq_false h,if_pos (by decide),if_neg h,if_neg h]
 obtain ⟨g2,hv,_,g1⟩:=get_at (Br h)
 have hfl:=lr.wu _ (List.getElem_mem g2)
 rw [decide_eq_true h,if_neg (by decide),if_pos h]
 by_cases h1:(1000:Int)<(value.length:Int)
 ·simp [h1]
 ·rw [if_neg h1,if_neg h1,zY g1 g2,hv]
  by_cases h2:(1000000000:Int)≤(s.L[(cg s.L p).1.toNat]).Version
  ·rw [if_pos h2,if_pos h2];rfl
  ·rw [if_neg h2,if_neg h2]
   unfold jB
   rw [if_pos (by omega),aC,zY g1 g2,zY g1 (by rw [List.length_set];exact g2),zY g1 (by rw [List.length_set];exact g2)]
   simp only [List.getElem_set_self,if_true,List.set_set]
   rw [wrap64 (by omega) (by omega)];rfl
def DL (L:List ae) (p:List UInt8) (version:Int):Int:=if p=[47] then 13 else if s6 L p version=0 then (if lg L p=[] then 0 else 10) else s6 L p version
def p0 (L:List ae) (p:List UInt8) (version:Int):List ae×Int:=if DL L p version=0 then (L.take (cg L p).1.toNat++L.drop ((cg L p).1.toNat+1),0) else (L,DL L p version)
theorem Sn {L:List ae} (lr:gO L) {p:List UInt8} (hp:bk p=true): ∀(m:Nat) {n:ae},n∈L→(aL n.Path).length=m→ji (aL p) (aL n.Path)=true→ ∃k∈L,Cq p k=true:=by
 intro m
 induction m with
 |zero=>
  intro n hn hm hb
  unfold ji at hb
  simp only [Bool.and_eq_true,decide_eq_true_eq] at hb
  omega
 |succ m ih=>
  intro n hn hm hb
  have hr:=lr.ord.1 n hn
  by_cases h1:(aL n.Path).length=(aL p).length+1
  ·exact ⟨n,hn,(yD hr hp).2 ⟨hb,h1⟩⟩
  ·have kn:n.Path≠[47]:=by
    intro e
    rw [e,GF] at hm;simp at hm
   obtain ⟨x,hx,hxp,_⟩:=lr.grown n hn kn
   have Uw:(cJ n.Path).1=pI (aL n.Path).dropLast:=by
    unfold cJ
    rw [hr];simp [kn]
   have ni:(aL n.Path).dropLast.all j6=true:=by
    obtain ⟨_,_,_,x4⟩:=dU hr
    rw [List.all_eq_true] at x4⊢
    exact fun y hy=>x4 y (List.mem_of_mem_take (by rw [List.dropLast_eq_take] at hy;exact hy))
   have hnx:aL x.Path=(aL n.Path).dropLast:=by rw [hxp,Uw,(Gz ni).1]
   refine ih hx (by rw [hnx,List.length_dropLast];omega) ?_
   unfold ji at hb⊢
   simp only [Bool.and_eq_true,decide_eq_true_eq] at hb⊢
   rw [hnx,List.length_dropLast,List.dropLast_eq_take,List.take_take,Nat.min_eq_left (by omega)]
   exact ⟨by omega,hb.2⟩
theorem So {L:List ae} (lr:gO L) {p:List UInt8} {i:Nat} (hi:i<L.length) (hp:(L[i]).Path=p):lg L p=[]↔ ∀h:i+1<L.length,pZ p (L[i+1]).Path=false:=by
 have hs:=lr.ord
 have Dr:bk p=true:=by rw [←hp];exact dJ hs hi
 constructor
 ·intro hk h
  rw [Bool.eq_false_iff]
  intro hb
  unfold pZ at hb
  rw [Dr,dJ hs h] at hb
  simp only [Bool.true_and] at hb
  obtain ⟨k,hkm,WS⟩:=Sn lr Dr _ (List.getElem_mem h) rfl hb
  have:k∈L.filter (Cq p):=List.mem_filter.2 ⟨hkm,WS⟩
  unfold lg at hk
  rw [List.map_eq_nil_iff] at hk
  rw [hk] at this;simp at this
 ·intro h
  by_cases h1:i+1<L.length
  ·rw [←MD hs hi hp h1 (by omega) (h h1),z7 hs hi hp]
  ·have:=z7 hs hi hp
   rw [List.take_of_length_le (by omega)] at this
   exact this
theorem del_eq {s:ay} (lr:gO s.L) (p:List UInt8) (version:Int):ny s p version=some (⟨(p0 s.L p version).1⟩,(p0 s.L p version).2):=by
 have hl:=lr.len
 have hs:=lr.ord
 unfold ny p0 DL
 rw [Qn hs (by omega),aC]
 dsimp only
 by_cases hp:p=[47]
 ·rw [if_pos hp,if_pos hp];rfl
 rw [if_neg hp,if_neg hp]
 by_cases h:s6 s.L p version=0
 rotate_left
 ·rw [decide_eq_false h,if_pos (by decide),if_neg h,if_neg h]
 obtain ⟨g2,hv,hpa,g1⟩:=get_at (Br h)
 rw [hv] at hpa
 have hkn:=So lr g2 hpa
 rw [decide_eq_true h,if_neg (by decide),if_pos h]
 obtain ⟨i,nU⟩: ∃i:Nat,(cg s.L p).1=(i:Int):=⟨(cg s.L p).1.toNat,by omega⟩
 have tf:(cg s.L p).1.toNat=i:=by rw [nU];rfl
 simp only [tf] at g2 hkn hpa⊢
 rw [nU,wrap64 (by omega) (by omega),show (i:Int)+1=((i+1:Nat):Int) by omega]
 have hw:(if ((i+1:Nat):Int)<(s.L.length:Int) then ix s.L ((i+1:Nat):Int) fun y=>bd (mO p y.Path) fun aY=>some aY else some false)=some (!decide (lg s.L p=[])):=by
  by_cases h1:i+1<s.L.length
  ·rw [if_pos (by omega),bx h1,Mw,aC]
   cases hb:pZ p (s.L[i+1]).Path with
   |true=>rw [decide_eq_false (fun hk=>by rw [hkn.1 hk h1] at hb;cases hb)];rfl
   |false=>rw [decide_eq_true (hkn.2 fun _=>hb)];rfl
  ·rw [if_neg (by omega),decide_eq_true (hkn.2 fun h'=>absurd h' h1)];rfl
 rw [hw,aC]
 by_cases hk:lg s.L p=[]
 ·rw [decide_eq_true hk,if_neg (by decide),if_pos hk]
  unfold jB
  rw [if_pos (by omega),aC]
  unfold yc
  rw [if_pos ⟨by omega,by omega,by omega⟩,aC]
  simp
 ·rw [decide_eq_false hk,if_pos (by decide),if_neg hk];rfl
end Dn.S
