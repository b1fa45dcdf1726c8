import Derived.Test.YtbkodohojpchjaaGreatDoorDnPShelf7
/-
  Shelves: what a change comes to. Conditions: none.
-/
open Go Dn
set_option linter.unusedVariables false
set_option linter.unusedSimpArgs false
namespace Dn.S
def Sp (p:List UInt8) (n:ae):Bool:=oR (aM n.Path) (aM p)
theorem DV {q:ae→Bool} {L:List ae} {i:Nat} (hi:i≤L.length) (h1: ∀k (hk:k<L.length),k<i→q L[k]=true) (h2: ∀k (hk:k<L.length),i≤k→q L[k]=false):
 L.take i=L.takeWhile q∧L.drop i=L.dropWhile q:=by
 induction L generalizing i with
 |nil=>simp
 |cons a l ih=>
  cases i with
  |zero=>
   have:=h2 0 (by simp) (Nat.le_refl _)
   simp only [List.getElem_cons_zero] at this
   simp [List.takeWhile,List.dropWhile,this]
  |succ i=>
   have:=h1 0 (by simp) (by omega)
   simp only [List.getElem_cons_zero] at this
   obtain ⟨e1,e2⟩:=ih (i:=i) (by simpa using hi) (fun k hk Ua=>by have:=h1 (k+1) (by simpa using hk) (by omega);rwa [List.getElem_cons_succ] at this) (fun k hk Ua=>by have:=h2 (k+1) (by simpa using hk) (by omega);rwa [List.getElem_cons_succ] at this)
   simp [List.takeWhile,List.dropWhile,this,e1,e2]
def EW (L:List ae) (n:ae):List ae:=L.takeWhile (Sp n.Path)++n::L.dropWhile (Sp n.Path)
theorem MW {L:List ae} {n m:ae}:m∈EW L n↔m=n∨m∈L:=by
 unfold EW
 conv=>rhs;rhs;rw [←List.takeWhile_append_dropWhile (p:=Sp n.Path) (l:=L)]
 simp only [List.mem_append,List.mem_cons]
 constructor
 ·rintro (h|h|h)
  ·exact .inr (.inl h)
  ·exact .inl h
  ·exact .inr (.inr h)
 ·rintro (h|h|h)
  ·exact .inr (.inl h)
  ·exact .inl h
  ·exact .inr (.inr h)
theorem Ve (L:List ae) (n:ae):(EW L n).length=L.length+1:=by
 unfold EW
 have:=congrArg List.length (List.takeWhile_append_dropWhile (p:=Sp n.Path) (l:=L))
 rw [List.length_append] at this
 rw [List.length_append,List.length_cons];omega
theorem OI {α:Type} {q:α→Bool} {l:List α} {x:α} (h:x∈l.takeWhile q):x∈l∧q x=true:=by
 induction l with
 |nil=>simp at h
 |cons a l ih=>
  cases ha:q a with
  |false=>simp [List.takeWhile,ha] at h
  |true=>
   simp only [List.takeWhile,ha,List.mem_cons] at h
   rcases h with rfl|h
   ·exact ⟨by simp,ha⟩
   ·exact ⟨by simp [(ih h).1],(ih h).2⟩
theorem Vf {L:List ae} (hs:oT L) {n:ae} (hn:bJ n.Path=true) (jX: ∀m∈L,m.Path≠n.Path):oT (EW L n):=by
 refine ⟨fun m hm=> ?_,?_⟩
 ·rcases MW.1 hm with rfl|h
  ·exact hn
  ·exact hs.1 m h
 have hpw:(L.takeWhile (Sp n.Path)++L.dropWhile (Sp n.Path)).Pairwise fun a b=>oR (aM a.Path) (aM b.Path)=true:=by
  rw [List.takeWhile_append_dropWhile];exact hs.2
 rw [List.pairwise_append] at hpw
 obtain ⟨p1,p2,p3⟩:=hpw
 have hdr: ∀m∈L.dropWhile (Sp n.Path),oR (aM n.Path) (aM m.Path)=true:=by
  intro m hm
  have hmL:m∈L:=List.dropWhile_subset _ hm
  have dx:Sp n.Path m=false:=by
   obtain ⟨i0,h1,h2,h3⟩:=DT hs (aM n.Path)
   have e:=(DV (q:=Sp n.Path) h1 h2 h3).2
   rw [←e] at hm
   obtain ⟨k,hk,rfl⟩:=List.mem_iff_getElem.1 hm
   rw [List.length_drop] at hk
   rw [List.getElem_drop]
   exact h3 (i0+k) (by omega) (by omega)
  unfold Sp at dx
  rcases U9 (aM m.Path) (aM n.Path) with h|h|h
  ·rw [h] at dx;cases dx
  ·exact absurd (OD (fH (hs.1 m hmL)).2.1 (fH hn).2.1 h) (jX m hmL)
  ·exact h
 unfold EW
 rw [List.pairwise_append]
 refine ⟨p1,List.pairwise_cons.2 ⟨hdr,p2⟩,?_⟩
 intro a ha b hb
 have dx:oR (aM a.Path) (aM n.Path)=true:=(OI ha).2
 rcases List.mem_cons.1 hb with rfl|hb
 ·exact dx
 ·exact p3 a ha b hb
def nV (L:List ae) (p value:List UInt8) (owner:Int):Int:=
 if bJ p then (if 0≤Al (L.map (·.Path)) p then 7 else
  if (jD L (ez p).1).2=0 then (if (jD L (ez p).1).1.cS=0 then (if (1000:Int)<(value.length:Int) then 5 else if owner<0 then 1 else if (200:Int)≤(L.length:Int) then 9 else 0) else 10) else 6) else 13
def rr (L:List ae) (p value:List UInt8) (owner:Int):List ae×Int:=if nV L p value owner=0 then (EW L ⟨p,value,0,owner⟩,0) else (L,nV L p value owner)
theorem Ly {s:aB} (hs:oT s.L) (hl:s.L.length<2^40) {p:List UInt8} (value:List UInt8) (owner:Int) (hp:bJ p=true):
 fE p (decide (0≤Al (s.L.map (·.Path)) p)) s value owner=some (nV s.L p value owner):=by
 unfold fE nV
 rw [sZ,aR,hp]
 simp only [Bool.not_true,Bool.false_eq_true,if_false,if_true]
 by_cases h0:0≤Al (s.L.map (·.Path)) p
 ·simp [h0]
 ·rw [decide_eq_false h0,if_neg (by decide),if_neg h0,Ge,aR,get_eq hs hl,aR]
  show (if !decide ((jD s.L (ez p).1).2=0) then _ else _)=_
  by_cases h1:(jD s.L (ez p).1).2=0
  ·rw [decide_eq_true h1,if_neg (by decide),if_pos h1]
   show (if !decide ((jD s.L (ez p).1).1.cS=0) then _ else _)=_
   by_cases h2:(jD s.L (ez p).1).1.cS=0
   ·rw [decide_eq_true h2,if_neg (by decide),if_pos h2]
    by_cases h3:(1000:Int)<(value.length:Int)
    ·simp [h3]
    ·rw [if_neg h3,if_neg h3]
     by_cases h4:owner<0
     ·simp [h4]
     ·rw [if_neg h4,if_neg h4]
      by_cases h5:(200:Int)≤(s.L.length:Int)
      ·simp [h5]
      ·simp [h5]
   ·rw [decide_eq_false h2,if_pos (by decide),if_neg h2]
  ·rw [decide_eq_false h1,if_pos (by decide),if_neg h1]
theorem DW {L:List ae} {p value:List UInt8} {owner:Int} (h:nV L p value owner=0):bJ p=true∧ ¬0≤Al (L.map (·.Path)) p∧(jD L (ez p).1).2=0∧(jD L (ez p).1).1.cS=0∧value.length≤1000∧0≤owner∧L.length<200:=by
 unfold nV at h
 cases hp:bJ p with
 |false=>rw [hp] at h;simp at h
 |true=>
  rw [hp] at h
  by_cases h0:0≤Al (L.map (·.Path)) p
  ·simp [h0] at h
  by_cases h1:(jD L (ez p).1).2=0
  rotate_left
  ·simp [h0,h1] at h
  by_cases h2:(jD L (ez p).1).1.cS=0
  rotate_left
  ·simp [h0,h1,h2] at h
  simp only [if_true,h0,if_false,h1,h2] at h
  by_cases h3:(1000:Int)<(value.length:Int)
  ·simp [h3] at h
  by_cases h4:owner<0
  ·simp [h3,h4] at h
  by_cases h5:(200:Int)≤(L.length:Int)
  ·simp [h3,h4,h5] at h
  exact ⟨rfl,h0,h1,h2,by omega,by omega,by omega⟩
theorem acA {L:List ae} {p:List UInt8} (h: ¬0≤Al (L.map (·.Path)) p): ∀n∈L,n.Path≠p:=by
 intro n hn he
 apply h
 unfold Al
 cases hf:(L.map (·.Path)).findIdx? (fun x=>decide (x=p)) with
 |some k=>simp
 |none=>
  rw [List.findIdx?_eq_none_iff] at hf
  have:=hf n.Path (List.mem_map.2 ⟨n,hn,rfl⟩)
  simp [he] at this
theorem OJ {s:aB} (hs:oT s.L) (hl:s.L.length<2^38) (p value:List UInt8) (owner:Int):kH s p value owner=some (⟨(rr s.L p value owner).1⟩,(rr s.L p value owner).2):=by
 unfold kH rr
 cases hp:bJ p with
 |false=>
  have he:nV s.L p value owner=13:=by unfold nV;rw [hp];rfl
  have hF: ∀b,fE p b s value owner=some 13:=by
   intro b
   unfold fE
   rw [sZ,aR,hp];rfl
  obtain ⟨rb,hrb⟩: ∃rb,dz s p=some rb:=by
   rw [JB]
   obtain ⟨i0,h1,h2,h3⟩:=DT hs (aM p)
   refine ⟨_,xr (L:=s.L) (t:=p) (cmp:=bW) (g:=fun n=>if n.Path=p then 0 else if rX n.Path p then-1 else 1) (i0:=0) (by omega) (fun n _=>DS n p) (Nat.zero_le _) (fun k hk h=>by omega) (fun k hk _=> ?_)⟩
   have:rX (s.L[k]).Path p=false:=by unfold rX;rw [hp];simp
   rw [this];split<;>simp
  rw [hrb,aR,hF,aR,he]
  rfl
 |true=>
  obtain ⟨i0,h1,h2,h3,h4,h5⟩:=JC hs (by omega) hp
  obtain ⟨e1,e2⟩:=DV (q:=Sp p) h1 h4 h5
  rw [h2,aR]
  dsimp only
  rw [Ly hs (by omega) value owner hp,aR]
  by_cases he:nV s.L p value owner=0
  ·rw [decide_eq_true he,if_neg (by decide),if_pos he]
   unfold iP
   rw [if_pos (by omega),aR]
   unfold pc
   have:=DW he
   rw [if_pos (by simp only [List.length_cons,List.length_nil];refine ⟨by omega,?_,by simp,by omega⟩;rw [Int.toNat_natCast];exact h1),aR]
   simp only [Int.toNat_natCast]
   unfold EW
   rw [e1,e2]
   simp
  ·rw [decide_eq_false he,if_pos (by decide),if_neg he]
def uE (L:List ae) (p:List UInt8) (version:Int):Int:=if (cL L p).2=0∧version≠ -1∧version≠(jD L p).1.Version then 8 else (cL L p).2
theorem MX {s:aB} (hs:oT s.L) (hl:s.L.length<2^40) (p:List UInt8) (version:Int):dA s p version=some ((cL s.L p).1,uE s.L p version):=by
 unfold dA uE
 rw [find_eq hs hl,aR]
 by_cases h:(cL s.L p).2=0
 ·obtain ⟨g1,g2⟩:=HG h
  rw [if_pos h]
  have hv:(jD s.L p).1=s.L[(cL s.L p).1.toNat]:=by unfold jD;rw [if_pos h,List.getElem?_eq_getElem g2];rfl
  by_cases h1:version= -1
  ·simp [h1,h,aR]
  ·rw [decide_eq_false h1,if_pos (by decide),Ah g1 g2,aR,hv]
   by_cases h2:version=(s.L[(cL s.L p).1.toNat]).Version
   ·rw [decide_eq_true h2,if_neg (by decide),if_neg (by rintro ⟨_,_,h3⟩;exact h3 h2)]
   ·rw [decide_eq_false h2,if_pos (by decide),if_pos ⟨h,h1,h2⟩]
 ·rw [if_neg h,aR,if_neg (by decide),if_neg (fun h'=>h h'.1)]
theorem zn {L:List ae} {p:List UInt8} {version:Int} (h:uE L p version=0):(cL L p).2=0:=by
 unfold uE at h
 split at h
 ·cases h
 ·exact h
def OL (L:List ae) (p value:List UInt8) (version:Int):Int:=if uE L p version=0 then (if (1000:Int)<(value.length:Int) then 5 else if (1000000000:Int)≤(jD L p).1.Version then 9 else 0) else uE L p version
def Sq (x:ae) (value:List UInt8):ae:=⟨x.Path,value,x.Version+1,x.cS⟩
def zo (L:List ae) (p value:List UInt8) (version:Int):List ae×Int:=if OL L p value version=0 then (L.set (cL L p).1.toNat (Sq (jD L p).1 value),0) else (L,OL L p value version)
theorem get_at {L:List ae} {p:List UInt8} (h:(cL L p).2=0): ∃hi:(cL L p).1.toNat<L.length,(jD L p).1=L[(cL L p).1.toNat]∧(jD L p).1.Path=p∧0≤(cL L p).1:=by
 obtain ⟨g1,g2⟩:=HG h
 have hv:(jD L p).1=L[(cL L p).1.toNat]:=by unfold jD;rw [if_pos h,List.getElem?_eq_getElem g2];rfl
 refine ⟨g2,hv,?_,g1⟩
 obtain ⟨_,i,hi,e,hp⟩:=MP h
 rw [hv]
 have:(cL L p).1.toNat=i:=by rw [e];rfl
 simp only [this];exact hp
theorem Yz {s:aB} (mC:ja s.L) (p value:List UInt8) (version:Int):sF s p value version=some (⟨(zo s.L p value version).1⟩,(zo s.L p value version).2):=by
 have hl:=mC.len
 have hs:=mC.ord
 unfold sF zo OL
 rw [MX hs (by omega),aR]
 dsimp only
 by_cases h:uE s.L p version=0
 rotate_left
 ·rw [decide_eq_false h,if_pos (by decide),if_neg h,if_neg h]
 obtain ⟨g2,hv,_,g1⟩:=get_at (zn h)
 have hfl:=mC.xv _ (List.getElem_mem g2)
 rw [decide_eq_true h,if_neg (by decide),if_pos h]
 by_cases h1:(1000:Int)<(value.length:Int)
 ·simp [h1]
 ·rw [if_neg h1,if_neg h1,Ah g1 g2,hv]
  by_cases h2:(1000000000:Int)≤(s.L[(cL s.L p).1.toNat]).Version
  ·rw [if_pos h2,if_pos h2];rfl
  ·rw [if_neg h2,if_neg h2]
   unfold iP
   rw [if_pos (by omega),aR,Ah g1 g2,Ah g1 (by rw [List.length_set];exact g2),Ah g1 (by rw [List.length_set];exact g2)]
   simp only [List.getElem_set_self,if_true,List.set_set]
   rw [wrap64 (by omega) (by omega)];rfl
def OM (L:List ae) (p:List UInt8) (version:Int):Int:=if p=[47] then 13 else if uE L p version=0 then (if kq L p=[] then 0 else 10) else uE L p version
def Lz (L:List ae) (p:List UInt8) (version:Int):List ae×Int:=if OM L p version=0 then (L.take (cL L p).1.toNat++L.drop ((cL L p).1.toNat+1),0) else (L,OM L p version)
theorem ON {L:List ae} (mC:ja L) {p:List UInt8} (hp:bJ p=true): ∀(m:Nat) {n:ae},n∈L→(aM n.Path).length=m→iy (aM p) (aM n.Path)=true→ ∃k∈L,Am p k=true:=by
 intro m
 induction m with
 |zero=>
  intro n hn hm hb
  unfold iy at hb
  simp only [Bool.and_eq_true,decide_eq_true_eq] at hb
  omega
 |succ m ih=>
  intro n hn hm hb
  have hr:=mC.ord.1 n hn
  by_cases h1:(aM n.Path).length=(aM p).length+1
  ·exact ⟨n,hn,(wF hr hp).2 ⟨hb,h1⟩⟩
  ·have jH:n.Path≠[47]:=by
    intro e
    rw [e,Lw] at hm;simp at hm
   obtain ⟨x,hx,Y1,_⟩:=mC.grown n hn jH
   have T2:(ez n.Path).1=rq (aM n.Path).dropLast:=by
    unfold ez
    rw [hr];simp [jH]
   have rC:(aM n.Path).dropLast.all oh=true:=by
    obtain ⟨_,_,_,x4⟩:=fH hr
    rw [List.all_eq_true] at x4⊢
    exact fun y hy=>x4 y (List.mem_of_mem_take (by rw [List.dropLast_eq_take] at hy;exact hy))
   have hnx:aM x.Path=(aM n.Path).dropLast:=by rw [Y1,T2,(DR rC).1]
   refine ih hx (by rw [hnx,List.length_dropLast];omega) ?_
   unfold iy at hb⊢
   simp only [Bool.and_eq_true,decide_eq_true_eq] at hb⊢
   rw [hnx,List.length_dropLast,List.dropLast_eq_take,List.take_take,Nat.min_eq_left (by omega)]
   exact ⟨by omega,hb.2⟩
theorem OO {L:List ae} (mC:ja L) {p:List UInt8} {i:Nat} (hi:i<L.length) (hp:(L[i]).Path=p):kq L p=[]↔ ∀h:i+1<L.length,oS p (L[i+1]).Path=false:=by
 have hs:=mC.ord
 have Cf:bJ p=true:=by rw [←hp];exact iz hs hi
 constructor
 ·intro hk h
  rw [Bool.eq_false_iff]
  intro hb
  unfold oS at hb
  rw [Cf,iz hs h] at hb
  simp only [Bool.true_and] at hb
  obtain ⟨k,hkm,S3⟩:=ON mC Cf _ (List.getElem_mem h) rfl hb
  have:k∈L.filter (Am p):=List.mem_filter.2 ⟨hkm,S3⟩
  unfold kq at hk
  rw [List.map_eq_nil_iff] at hk
  rw [hk] at this;simp at this
 ·intro h
  by_cases h1:i+1<L.length
  ·rw [←JD hs hi hp h1 (by omega) (h h1),yc hs hi hp]
  ·have:=yc hs hi hp
   rw [List.take_of_length_le (by omega)] at this
   exact this
theorem del_eq {s:aB} (mC:ja s.L) (p:List UInt8) (version:Int):mF s p version=some (⟨(Lz s.L p version).1⟩,(Lz s.L p version).2):=by
 have hl:=mC.len
 have hs:=mC.ord
 unfold mF Lz OM
 rw [MX hs (by omega),aR]
 dsimp only
 by_cases hp:p=[47]
 ·rw [if_pos hp,if_pos hp];rfl
 rw [if_neg hp,if_neg hp]
 by_cases h:uE s.L p version=0
 rotate_left
 ·rw [decide_eq_false h,if_pos (by decide),if_neg h,if_neg h]
 obtain ⟨g2,hv,hpa,g1⟩:=get_at (zn h)
 rw [hv] at hpa
 have Y5:=OO mC g2 hpa
 rw [decide_eq_true h,if_neg (by decide),if_pos h]
 obtain ⟨i,na⟩: ∃i:Nat,(cL s.L p).1=(i:Int):=⟨(cL s.L p).1.toNat,by omega⟩
 have sf:(cL s.L p).1.toNat=i:=by rw [na];rfl
 simp only [sf] at g2 Y5 hpa⊢
 rw [na,wrap64 (by omega) (by omega),show (i:Int)+1=((i+1:Nat):Int) by omega]
 have hw:(if ((i+1:Nat):Int)<(s.L.length:Int) then ix s.L ((i+1:Nat):Int) fun y=>bd (lT p y.Path) fun aV=>some aV else some false)=some (!decide (kq s.L p=[])):=by
  by_cases h1:i+1<s.L.length
  ·rw [if_pos (by omega),cg h1,JA,aR]
   cases hb:oS p (s.L[i+1]).Path with
   |true=>rw [decide_eq_false (fun hk=>by rw [Y5.1 hk h1] at hb;cases hb)];rfl
   |false=>rw [decide_eq_true (Y5.2 fun _=>hb)];rfl
  ·rw [if_neg (by omega),decide_eq_true (Y5.2 fun h'=>absurd h' h1)];rfl
 rw [hw,aR]
 by_cases hk:kq s.L p=[]
 ·rw [decide_eq_true hk,if_neg (by decide),if_pos hk]
  unfold iP
  rw [if_pos (by omega),aR]
  unfold wk
  rw [if_pos ⟨by omega,by omega,by omega⟩,aR]
  simp
 ·rw [decide_eq_false hk,if_pos (by decide),if_neg hk];rfl
end Dn.S
