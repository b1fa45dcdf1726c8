import Derived.Test.YtbkodohojpchjaaGreatDoorDnPShelf7
/-
  Shelves: what a change comes to. Conditions: none.
-/
open Go Dn
set_option linter.unusedVariables false
set_option linter.unusedSimpArgs false
namespace Dn.S
def Tt (p:List UInt8) (n:ae):Bool:=o8 (aP n.Path) (aP p)
theorem ER {q:ae→Bool} {L:List ae} {i:Nat} (hi:i≤L.length) (h1: ∀k (hk:k<L.length),k<i→q L[k]=true) (h2: ∀k (hk:k<L.length),i≤k→q L[k]=false):
 L.take i=L.takeWhile q∧L.drop i=L.dropWhile q:=by
 induction L generalizing i with
 |nil=>simp
 |cons a l ih=>
  cases i with
  |zero=>
   have:=h2 0 (by simp) (Nat.le_refl _)
   simp only [List.getElem_cons_zero] at this
   simp [List.takeWhile,List.dropWhile,this]
  |succ i=>
   have:=h1 0 (by simp) (by omega)
   simp only [List.getElem_cons_zero] at this
   obtain ⟨e1,e2⟩:=ih (i:=i) (by simpa using hi) (fun k hk Vd=>by have:=h1 (k+1) (by simpa using hk) (by omega);rwa [List.getElem_cons_succ] at this) (fun k hk Vd=>by have:=h2 (k+1) (by simpa using hk) (by omega);rwa [List.getElem_cons_succ] at this)
   simp [List.takeWhile,List.dropWhile,this,e1,e2]
def FV (L:List ae) (n:ae):List ae:=L.takeWhile (Tt n.Path)++n::L.dropWhile (Tt n.Path)
theorem IH {L:List ae} {n m:ae}:m∈FV L n↔m=n∨m∈L:=by
 unfold FV
 conv=>rhs;rhs;rw [←List.takeWhile_append_dropWhile (p:=Tt n.Path) (l:=L)]
 simp only [List.mem_append,List.mem_cons]
 constructor
 ·rintro (h|h|h)
  ·exact .inr (.inl h)
  ·exact .inl h
  ·exact .inr (.inr h)
 ·rintro (h|h|h)
  ·exact .inr (.inl h)
  ·exact .inl h
  ·exact .inr (.inr h)
theorem Wi (L:List ae) (n:ae):(FV L n).length=L.length+1:=by
 unfold FV
 have:=congrArg List.length (List.takeWhile_append_dropWhile (p:=Tt n.Path) (l:=L))
 rw [List.length_append] at this
 rw [List.length_append,List.length_cons];omega
theorem PW {α:Type} {q:α→Bool} {l:List α} {x:α} (h:x∈l.takeWhile q):x∈l∧q x=true:=by
 induction l with
 |nil=>simp at h
 |cons a l ih=>
  cases ha:q a with
  |false=>simp [List.takeWhile,ha] at h
  |true=>
   simp only [List.takeWhile,ha,List.mem_cons] at h
   rcases h with rfl|h
   ·exact ⟨by simp,ha⟩
   ·exact ⟨by simp [(ih h).1],(ih h).2⟩
theorem Wj {L:List ae} (hs:nB L) {n:ae} (hn:bw n.Path=true) (ki: ∀m∈L,m.Path≠n.Path):nB (FV L n):=by
 refine ⟨fun m hm=> ?_,?_⟩
 ·rcases IH.1 hm with rfl|h
  ·exact hn
  ·exact hs.1 m h
 have hpw:(L.takeWhile (Tt n.Path)++L.dropWhile (Tt n.Path)).Pairwise fun a b=>o8 (aP a.Path) (aP b.Path)=true:=by
  rw [List.takeWhile_append_dropWhile];exact hs.2
 rw [List.pairwise_append] at hpw
 obtain ⟨p1,p2,p3⟩:=hpw
 have hdr: ∀m∈L.dropWhile (Tt n.Path),o8 (aP n.Path) (aP m.Path)=true:=by
  intro m hm
  have hmL:m∈L:=List.dropWhile_subset _ hm
  have cz:Tt n.Path m=false:=by
   obtain ⟨i0,h1,h2,h3⟩:=EP hs (aP n.Path)
   have e:=(ER (q:=Tt n.Path) h1 h2 h3).2
   rw [←e] at hm
   obtain ⟨k,hk,rfl⟩:=List.mem_iff_getElem.1 hm
   rw [List.length_drop] at hk
   rw [List.getElem_drop]
   exact h3 (i0+k) (by omega) (by omega)
  unfold Tt at cz
  rcases Wc (aP m.Path) (aP n.Path) with h|h|h
  ·rw [h] at cz;cases cz
  ·exact absurd (PQ (ga (hs.1 m hmL)).2.1 (ga hn).2.1 h) (ki m hmL)
  ·exact h
 unfold FV
 rw [List.pairwise_append]
 refine ⟨p1,List.pairwise_cons.2 ⟨hdr,p2⟩,?_⟩
 intro a ha b hb
 have cz:o8 (aP a.Path) (aP n.Path)=true:=(PW ha).2
 rcases List.mem_cons.1 hb with rfl|hb
 ·exact cz
 ·exact p3 a ha b hb
def ot (L:List ae) (p value:List UInt8) (owner:Int):Int:=
 if bw p then (if 0≤tH (L.map (·.Path)) p then 7 else
  if (jO L (cK p).1).2=0 then (if (jO L (cK p).1).1.bj=0 then (if (1000:Int)<(value.length:Int) then 5 else if owner<0 then 1 else if (200:Int)≤(L.length:Int) then 9 else 0) else 10) else 6) else 13
def nv (L:List ae) (p value:List UInt8) (owner:Int):List ae×Int:=if ot L p value owner=0 then (FV L ⟨p,value,0,owner⟩,0) else (L,ot L p value owner)
theorem MI {s:av} (hs:nB s.L) (hl:s.L.length<2^40) {p:List UInt8} (value:List UInt8) (owner:Int) (hp:bw p=true):
 fU p (decide (0≤tH (s.L.map (·.Path)) p)) s value owner=some (ot s.L p value owner):=by
 unfold fU ot
 rw [o7,aM,hp]
 simp only [Bool.not_true,Bool.false_eq_true,if_false,if_true]
 by_cases h0:0≤tH (s.L.map (·.Path)) p
 ·simp [h0]
 ·rw [decide_eq_false h0,if_neg (by decide),if_neg h0,AY,aM,get_eq hs hl,aM]
  show (if !decide ((jO s.L (cK p).1).2=0) then _ else _)=_
  by_cases h1:(jO s.L (cK p).1).2=0
  ·rw [decide_eq_true h1,if_neg (by decide),if_pos h1]
   show (if !decide ((jO s.L (cK p).1).1.bj=0) then _ else _)=_
   by_cases h2:(jO s.L (cK p).1).1.bj=0
   ·rw [decide_eq_true h2,if_neg (by decide),if_pos h2]
    by_cases h3:(1000:Int)<(value.length:Int)
    ·simp [h3]
    ·rw [if_neg h3,if_neg h3]
     by_cases h4:owner<0
     ·simp [h4]
     ·rw [if_neg h4,if_neg h4]
      by_cases h5:(200:Int)≤(s.L.length:Int)
      ·simp [h5]
      ·simp [h5]
   ·rw [decide_eq_false h2,if_pos (by decide),if_neg h2]
  ·rw [decide_eq_false h1,if_pos (by decide),if_neg h1]
theorem ES {L:List ae} {p value:List UInt8} {owner:Int} (h:ot L p value owner=0):bw p=true∧ ¬0≤tH (L.map (·.Path)) p∧(jO L (cK p).1).2=0∧(jO L (cK p).1).1.bj=0∧value.length≤1000∧0≤owner∧L.length<200:=by
 unfold ot at h
 cases hp:bw p with
 |false=>rw [hp] at h;simp at h
 |true=>
  rw [hp] at h
  by_cases h0:0≤tH (L.map (·.Path)) p
  ·simp [h0] at h
  by_cases h1:(jO L (cK p).1).2=0
  rotate_left
  ·simp [h0,h1] at h
  by_cases h2:(jO L (cK p).1).1.bj=0
  rotate_left
  ·simp [h0,h1,h2] at h
  simp only [if_true,h0,if_false,h1,h2] at h
  by_cases h3:(1000:Int)<(value.length:Int)
  ·simp [h3] at h
  by_cases h4:owner<0
  ·simp [h3,h4] at h
  by_cases h5:(200:Int)≤(L.length:Int)
  ·simp [h3,h4,h5] at h
  exact ⟨rfl,h0,h1,h2,by omega,by omega,by omega⟩
theorem adt {L:List ae} {p:List UInt8} (h: ¬0≤tH (L.map (·.Path)) p): ∀n∈L,n.Path≠p:=by
 intro n hn he
 apply h
 unfold tH
 cases hf:(L.map (·.Path)).findIdx? (fun x=>decide (x=p)) with
 |some k=>simp
 |none=>
  rw [List.findIdx?_eq_none_iff] at hf
  have:=hf n.Path (List.mem_map.2 ⟨n,hn,rfl⟩)
  simp [he] at this
theorem PX {s:av} (hs:nB s.L) (hl:s.L.length<2^38) (p value:List UInt8) (owner:Int):kW s p value owner=some (⟨(nv s.L p value owner).1⟩,(nv s.L p value owner).2):=by
 unfold kW nv
 cases hp:bw p with
 |false=>
  have he:ot s.L p value owner=13:=by unfold ot;rw [hp];rfl
  have hF: ∀b,fU p b s value owner=some 13:=by
   intro b
   unfold fU
   rw [o7,aM,hp];rfl
  obtain ⟨rb,hrb⟩: ∃rb,dE s p=some rb:=by
   rw [KF]
   obtain ⟨i0,h1,h2,h3⟩:=EP hs (aP p)
   refine ⟨_,ym (L:=s.L) (t:=p) (cmp:=bX) (g:=fun n=>if n.Path=p then 0 else if mF n.Path p then-1 else 1) (i0:=0) (by omega) (fun n _=>EO n p) (Nat.zero_le _) (fun k hk h=>by omega) (fun k hk _=> ?_)⟩
   have:mF (s.L[k]).Path p=false:=by unfold mF;rw [hp];simp
   rw [this];split<;>simp
  rw [hrb,aM,hF,aM,he]
  rfl
 |true=>
  obtain ⟨i0,h1,h2,h3,h4,h5⟩:=KG hs (by omega) hp
  obtain ⟨e1,e2⟩:=ER (q:=Tt p) h1 h4 h5
  rw [h2,aM]
  dsimp only
  rw [MI hs (by omega) value owner hp,aM]
  by_cases he:ot s.L p value owner=0
  ·rw [decide_eq_true he,if_neg (by decide),if_pos he]
   unfold jo
   rw [if_pos (by omega),aM]
   unfold pQ
   have:=ES he
   rw [if_pos (by simp only [List.length_cons,List.length_nil];refine ⟨by omega,?_,by simp,by omega⟩;rw [Int.toNat_natCast];exact h1),aM]
   simp only [Int.toNat_natCast]
   unfold FV
   rw [e1,e2]
   simp
  ·rw [decide_eq_false he,if_pos (by decide),if_neg he]
def vm (L:List ae) (p:List UInt8) (version:Int):Int:=if (cG L p).2=0∧version≠ -1∧version≠(jO L p).1.Version then 8 else (cG L p).2
theorem N7 {s:av} (hs:nB s.L) (hl:s.L.length<2^40) (p:List UInt8) (version:Int):dF s p version=some ((cG s.L p).1,vm s.L p version):=by
 unfold dF vm
 rw [find_eq hs hl,aM]
 by_cases h:(cG s.L p).2=0
 ·obtain ⟨g1,g2⟩:=IF h
  rw [if_pos h]
  have hv:(jO s.L p).1=s.L[(cG s.L p).1.toNat]:=by unfold jO;rw [if_pos h,List.getElem?_eq_getElem g2];rfl
  by_cases h1:version= -1
  ·simp [h1,h,aM]
  ·rw [decide_eq_false h1,if_pos (by decide),yS g1 g2,aM,hv]
   by_cases h2:version=(s.L[(cG s.L p).1.toNat]).Version
   ·rw [decide_eq_true h2,if_neg (by decide),if_neg (by rintro ⟨_,_,h3⟩;exact h3 h2)]
   ·rw [decide_eq_false h2,if_pos (by decide),if_pos ⟨h,h1,h2⟩]
 ·rw [if_neg h,aM,if_neg (by decide),if_neg (fun h'=>h h'.1)]
theorem z1 {L:List ae} {p:List UInt8} {version:Int} (h:vm L p version=0):(cG L p).2=0:=by
 unfold vm at h
 split at h
 ·cases h
 ·exact h
def PY (L:List ae) (p value:List UInt8) (version:Int):Int:=if vm L p version=0 then (if (1000:Int)<(value.length:Int) then 5 else if (1000000000:Int)≤(jO L p).1.Version then 9 else 0) else vm L p version
def Tu (x:ae) (value:List UInt8):ae:=⟨x.Path,value,x.Version+1,x.bj⟩
def xP (L:List ae) (p value:List UInt8) (version:Int):List ae×Int:=if PY L p value version=0 then (L.set (cG L p).1.toNat (Tu (jO L p).1 value),0) else (L,PY L p value version)
theorem get_at {L:List ae} {p:List UInt8} (h:(cG L p).2=0): ∃hi:(cG L p).1.toNat<L.length,(jO L p).1=L[(cG L p).1.toNat]∧(jO L p).1.Path=p∧0≤(cG L p).1:=by
 obtain ⟨g1,g2⟩:=IF h
 have hv:(jO L p).1=L[(cG L p).1.toNat]:=by unfold jO;rw [if_pos h,List.getElem?_eq_getElem g2];rfl
 refine ⟨g2,hv,?_,g1⟩
 obtain ⟨_,i,hi,e,hp⟩:=IG h
 rw [hv]
 have:(cG L p).1.toNat=i:=by rw [e];rfl
 simp only [this];exact hp
theorem ZG {s:av} (lW:ik s.L) (p value:List UInt8) (version:Int):tg s p value version=some (⟨(xP s.L p value version).1⟩,(xP s.L p value version).2):=by
 have hl:=lW.len
 have hs:=lW.ord
 unfold tg xP PY
 rw [N7 hs (by omega),aM]
 dsimp only
 by_cases h:vm s.L p version=0
 rotate_left
 ·rw [decide_eq_false h,if_pos (by decide),if_neg h,if_neg h]
 obtain ⟨g2,hv,_,g1⟩:=get_at (z1 h)
 have hfl:=lW.vr _ (List.getElem_mem g2)
 rw [decide_eq_true h,if_neg (by decide),if_pos h]
 by_cases h1:(1000:Int)<(value.length:Int)
 ·simp [h1]
 ·rw [if_neg h1,if_neg h1,yS g1 g2,hv]
  by_cases h2:(1000000000:Int)≤(s.L[(cG s.L p).1.toNat]).Version
  ·rw [if_pos h2,if_pos h2];rfl
  ·rw [if_neg h2,if_neg h2]
   unfold jo
   rw [if_pos (by omega),aM,yS g1 g2,yS g1 (by rw [List.length_set];exact g2),yS g1 (by rw [List.length_set];exact g2)]
   simp only [List.getElem_set_self,if_true,List.set_set]
   rw [wrap64 (by omega) (by omega)];rfl
def PZ (L:List ae) (p:List UInt8) (version:Int):Int:=if p=[47] then 13 else if vm L p version=0 then (if kM L p=[] then 0 else 10) else vm L p version
def II (L:List ae) (p:List UInt8) (version:Int):List ae×Int:=if PZ L p version=0 then (L.take (cG L p).1.toNat++L.drop ((cG L p).1.toNat+1),0) else (L,PZ L p version)
theorem P0 {L:List ae} (lW:ik L) {p:List UInt8} (hp:bw p=true): ∀(m:Nat) {n:ae},n∈L→(aP n.Path).length=m→iX (aP p) (aP n.Path)=true→ ∃k∈L,A3 p k=true:=by
 intro m
 induction m with
 |zero=>
  intro n hn hm hb
  unfold iX at hb
  simp only [Bool.and_eq_true,decide_eq_true_eq] at hb
  omega
 |succ m ih=>
  intro n hn hm hb
  have hr:=lW.ord.1 n hn
  by_cases h1:(aP n.Path).length=(aP p).length+1
  ·exact ⟨n,hn,(xu hr hp).2 ⟨hb,h1⟩⟩
  ·have jY:n.Path≠[47]:=by
    intro e
    rw [e,EQ] at hm;simp at hm
   obtain ⟨x,hx,hxp,_⟩:=lW.grown n hn jY
   have U5:(cK n.Path).1=sd (aP n.Path).dropLast:=by
    unfold cK
    rw [hr];simp [jY]
   have pL:(aP n.Path).dropLast.all o6=true:=by
    obtain ⟨_,_,_,x4⟩:=ga hr
    rw [List.all_eq_true] at x4⊢
    exact fun y hy=>x4 y (List.mem_of_mem_take (by rw [List.dropLast_eq_take] at hy;exact hy))
   have hnx:aP x.Path=(aP n.Path).dropLast:=by rw [hxp,U5,(EM pL).1]
   refine ih hx (by rw [hnx,List.length_dropLast];omega) ?_
   unfold iX at hb⊢
   simp only [Bool.and_eq_true,decide_eq_true_eq] at hb⊢
   rw [hnx,List.length_dropLast,List.dropLast_eq_take,List.take_take,Nat.min_eq_left (by omega)]
   exact ⟨by omega,hb.2⟩
theorem P1 {L:List ae} (lW:ik L) {p:List UInt8} {i:Nat} (hi:i<L.length) (hp:(L[i]).Path=p):kM L p=[]↔ ∀h:i+1<L.length,pC p (L[i+1]).Path=false:=by
 have hs:=lW.ord
 have CW:bw p=true:=by rw [←hp];exact dr hs hi
 constructor
 ·intro hk h
  rw [Bool.eq_false_iff]
  intro hb
  unfold pC at hb
  rw [CW,dr hs h] at hb
  simp only [Bool.true_and] at hb
  obtain ⟨k,hkm,Ub⟩:=P0 lW CW _ (List.getElem_mem h) rfl hb
  have:k∈L.filter (A3 p):=List.mem_filter.2 ⟨hkm,Ub⟩
  unfold kM at hk
  rw [List.map_eq_nil_iff] at hk
  rw [hk] at this;simp at this
 ·intro h
  by_cases h1:i+1<L.length
  ·rw [←KH hs hi hp h1 (by omega) (h h1),yW hs hi hp]
  ·have:=yW hs hi hp
   rw [List.take_of_length_le (by omega)] at this
   exact this
theorem del_eq {s:av} (lW:ik s.L) (p:List UInt8) (version:Int):mY s p version=some (⟨(II s.L p version).1⟩,(II s.L p version).2):=by
 have hl:=lW.len
 have hs:=lW.ord
 unfold mY II PZ
 rw [N7 hs (by omega),aM]
 dsimp only
 by_cases hp:p=[47]
 ·rw [if_pos hp,if_pos hp];rfl
 rw [if_neg hp,if_neg hp]
 by_cases h:vm s.L p version=0
 rotate_left
 ·rw [decide_eq_false h,if_pos (by decide),if_neg h,if_neg h]
 obtain ⟨g2,hv,hpa,g1⟩:=get_at (z1 h)
 rw [hv] at hpa
 have hkn:=P1 lW g2 hpa
 rw [decide_eq_true h,if_neg (by decide),if_pos h]
 obtain ⟨i,ny⟩: ∃i:Nat,(cG s.L p).1=(i:Int):=⟨(cG s.L p).1.toNat,by omega⟩
 have s4:(cG s.L p).1.toNat=i:=by rw [ny];rfl
 simp only [s4] at g2 hkn hpa⊢
 rw [ny,wrap64 (by omega) (by omega),show (i:Int)+1=((i+1:Nat):Int) by omega]
 have hw:(if ((i+1:Nat):Int)<(s.L.length:Int) then ix s.L ((i+1:Nat):Int) fun y=>bd (mw p y.Path) fun aV=>some aV else some false)=some (!decide (kM s.L p=[])):=by
  by_cases h1:i+1<s.L.length
  ·rw [if_pos (by omega),cg h1,KE,aM]
   cases hb:pC p (s.L[i+1]).Path with
   |true=>rw [decide_eq_false (fun hk=>by rw [hkn.1 hk h1] at hb;cases hb)];rfl
   |false=>rw [decide_eq_true (hkn.2 fun _=>hb)];rfl
  ·rw [if_neg (by omega),decide_eq_true (hkn.2 fun h'=>absurd h' h1)];rfl
 rw [hw,aM]
 by_cases hk:kM s.L p=[]
 ·rw [decide_eq_true hk,if_neg (by decide),if_pos hk]
  unfold jo
  rw [if_pos (by omega),aM]
  unfold xj
  rw [if_pos ⟨by omega,by omega,by omega⟩,aM]
  simp
 ·rw [decide_eq_false hk,if_pos (by decide),if_neg hk];rfl
end Dn.S
