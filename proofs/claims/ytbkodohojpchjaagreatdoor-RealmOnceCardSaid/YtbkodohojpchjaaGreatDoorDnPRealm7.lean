import Derived.Test.YtbkodohojpchjaaGreatDoorDnPRealm6
/-
  Realms: an order that was answered is answered alike. Conditions: none.
-/
open Go Dn
set_option linter.unusedVariables false
set_option linter.unusedSimpArgs false
namespace Dn.S
theorem W6 (r:ak):bu (A8 r) fun b=>b=true→Small r∧(r.Shelf.L.length≤40∧r.bg.L.length≤40∧r.Seen.length≤60)∧Px r:=by
 unfold A8
 by_cases h1:(40:Int)<(r.Shelf.L.length:Int)
 ·rw [if_pos h1,aA,if_pos rfl];exact .mk (fun h=>by cases h)
 rw [if_neg h1]
 by_cases h2:(40:Int)<(r.bg.L.length:Int)
 ·rw [if_pos h2,aA,if_pos rfl];exact .mk (fun h=>by cases h)
 rw [if_neg h2]
 by_cases h3:(60:Int)<(r.br.L.length:Int)
 ·rw [if_pos h3,aA,if_pos rfl];exact .mk (fun h=>by cases h)
 rw [if_neg h3]
 by_cases h4:(60:Int)<(r.Seen.length:Int)
 ·rw [if_pos h4,aA,if_pos rfl];exact .mk (fun h=>by cases h)
 rw [if_neg h4,aA]
 by_cases h5:(10000000000:Int)<r.br.dK
 ·rw [decide_eq_true h5,if_pos rfl];exact .mk (fun h=>by cases h)
 rw [decide_eq_false h5,if_neg (by decide)]
 have hS:Small r:=⟨by omega,by omega,by omega,by omega,fun _=>by omega⟩
 refine bu.bd (P:=fun x=>x= .inl ()∨x= .inr false) ?_ ?_
 ·refine bu.count (fun k=>(k:Int)) r.Shelf.L.length (fun _=>True) rfl trivial (fun k hk _=> ?_) (fun _=> ?_)
  ·unfold yx
   rw [if_pos (by omega),bt hk,bt hk]
   by_cases g1:(200:Int)<(r.Shelf.L[k].Path.length:Int)
   ·rw [if_pos g1,aA,if_pos rfl];exact .mk (.inr rfl)
   rw [if_neg g1,aA]
   by_cases g2:(1100:Int)<(r.Shelf.L[k].Value.length:Int)
   ·rw [decide_eq_true g2,if_pos rfl];exact .mk (.inr rfl)
   rw [decide_eq_false g2,if_neg (by decide),wrap64 (by omega) (by omega)]
   exact .mk ⟨by omega,trivial⟩
  ·unfold yx
   rw [if_neg (by omega)]
   exact .mk (.inl rfl)
 rintro x (rfl|rfl)
 rotate_left
 ·exact .mk (fun h=>by cases h)
 dsimp only
 refine bu.bd (P:=fun x=>x= .inl ()∨x= .inr false) ?_ ?_
 ·refine bu.count (fun k=>(k:Int)) r.bg.L.length (fun _=>True) rfl trivial (fun k hk _=> ?_) (fun _=> ?_)
  ·unfold yy
   rw [if_pos (by omega),bt hk]
   by_cases g1:(200:Int)<(r.bg.L[k].Path.length:Int)
   ·rw [if_pos g1];exact .mk (.inr rfl)
   rw [if_neg g1,wrap64 (by omega) (by omega)]
   exact .mk ⟨by omega,trivial⟩
  ·unfold yy
   rw [if_neg (by omega)]
   exact .mk (.inl rfl)
 rintro x (rfl|rfl)
 rotate_left
 ·exact .mk (fun h=>by cases h)
 dsimp only
 refine bu.bd (P:=fun x=>(x= .inl ()∧Px r)∨x= .inr false) ?_ ?_
 ·refine bu.count (fun k=>(k:Int)) r.Seen.length (fun k=> ∀j (hj:j<r.Seen.length),j<k→r.Seen[j].Names.length≤1000) rfl (fun j hj h=>by omega) (fun k hk hp=> ?_) (fun hp=> ?_)
  ·unfold yA
   rw [if_pos (by omega),bt hk,bt hk]
   by_cases g1:(1100:Int)<(r.Seen[k].Value.length:Int)
   ·rw [if_pos g1,aA,if_pos rfl];exact .mk (.inr rfl)
   rw [if_neg g1,aA]
   by_cases g2:(40:Int)<(r.Seen[k].Names.length:Int)
   ·rw [decide_eq_true g2,if_pos rfl];exact .mk (.inr rfl)
   rw [decide_eq_false g2,if_neg (by decide)]
   refine bu.bd (P:=fun x=>x= .inl ()∨x= .inr false) ?_ ?_
   ·refine bu.count (fun i=>(i:Int)) r.Seen[k].Names.length (fun _=>True) rfl trivial (fun i hi _=> ?_) (fun _=> ?_)
    ·unfold yz
     rw [bt hk,if_pos (by omega),bt hk,bt hi]
     by_cases g3:(200:Int)<(r.Seen[k].Names[i].length:Int)
     ·rw [if_pos g3];exact .mk (.inr rfl)
     rw [if_neg g3,wrap64 (by omega) (by omega)]
     exact .mk ⟨by omega,trivial⟩
    ·unfold yz
     rw [bt hk,if_neg (by omega)]
     exact .mk (.inl rfl)
   rintro x (rfl|rfl)
   ·dsimp only
    rw [wrap64 (by omega) (by omega)]
    refine .mk ⟨by omega,fun j hj Yl=> ?_⟩
    by_cases hjj:j=k
    ·subst hjj;omega
    ·exact hp j hj (by omega)
   ·exact .mk (.inr rfl)
  ·unfold yA
   rw [if_neg (by omega)]
   refine .mk (.inl ⟨rfl,fun x hx=> ?_⟩)
   obtain ⟨j,hj,rfl⟩:=List.mem_iff_getElem.1 hx
   exact hp j hj hj
 rintro x (⟨rfl,hN⟩|rfl)
 ·exact .mk (fun _=>⟨hS,⟨by omega,by omega,by omega⟩,hN⟩)
 ·exact .mk (fun h=>by cases h)
theorem KY (x:af) (h:x.Names.length<2^60):xB (Av x) (Av x)=some true:=by
 unfold xB
 rw [if_pos rfl,if_pos rfl,if_pos rfl,if_pos rfl,if_pos rfl,show (Av x).Names=x.Names from rfl,Pe _ _ h,decide_eq_true rfl];rfl
theorem QU (w:ai) (k:Int):(tO k w).x=w.x:=by unfold tO;split<;>rfl
theorem W7 {w:ai} (hp:ek w.r) (h:w.x.Names.length≤1000):(Pw w).x.Names.length≤1000:=by
 have hs:=hp.shelf.len
 unfold Pw
 split
 ·exact h
 split
 ·unfold yT
  split
  ·exact h
  ·rw [QU];exact h
 split
 ·exact h
 split
 ·unfold SR M8
  split
  ·show (tO 2 _).x.Names.length≤1000;rw [QU];exact h
  ·rw [QU];exact h
 split
 ·unfold Ea;rw [QU];exact h
 split
 ·have:=SC w.r.Shelf.L w.o.Path
  show (GD w.r.Shelf.L w.o.Path).1.length≤1000
  omega
 split
 ·exact h
 split
 ·exact h
 split
 ·unfold CG
  split<;>exact h
 split
 ·unfold Jr
  split
  ·rename_i he
   obtain ⟨h1,h2,h3,h4,h5,h6⟩:=yc (zL w.r.br w.o.Span) (v:=ya w) (mX hp (KU hp.book he))
   rw [h3];exact h
  ·exact h
 ·exact h
theorem BI {L:List af} (hs:oK jq L) {c:Int} {x:af} (hx:x.Client=c) (y:af):y∈yb L c x↔y=x∨(y∈L∧y.Client≠c):=by
 unfold yb
 subst hx
 cases hh:ka jq L x.Client with
 |false=>
  rw [if_neg (by decide),KT]
  constructor
  ·rintro (h|h)
   ·refine .inr ⟨h,fun he=> ?_⟩
    have:ka jq L x.Client=true:=Bz.2 ⟨y,h,he⟩
    rw [hh] at this;cases this
   ·exact .inl h
  ·rintro (h|⟨h,_⟩)
   ·exact .inr h
   ·exact .inl h
 |true=>
  obtain ⟨hk,he⟩:=(hs.has x.Client).1 hh
  rw [if_pos rfl]
  have db: ∀j (hj:j<L.length),j≠o9 jq L x.Client→L[j].Client≠x.Client:=by
   intro j hj hjn hjc
   have he:L[o9 jq L x.Client].Client=x.Client:=he
   rcases Nat.lt_or_gt_of_ne hjn with dn|dn
   ·have h5:L[j].Client<L[o9 jq L x.Client].Client:=hs.lt hk dn
    omega
   ·have h5:L[o9 jq L x.Client].Client<L[j].Client:=hs.lt hj dn
    omega
  rw [List.mem_iff_getElem]
  constructor
  ·rintro ⟨j,hj,rfl⟩
   rw [List.length_set] at hj
   rw [List.getElem_set]
   split
   ·exact .inl rfl
   ·rename_i hjn
    exact .inr ⟨List.getElem_mem hj,db j hj (fun h=>hjn h.symm)⟩
  ·rintro (rfl|⟨hy,hyc⟩)
   ·exact ⟨o9 jq L y.Client,by rw [List.length_set];exact hk,by rw [List.getElem_set_self]⟩
   ·obtain ⟨j,hj,rfl⟩:=List.mem_iff_getElem.1 hy
    refine ⟨j,by rw [List.length_set];exact hj,?_⟩
    rw [List.getElem_set,if_neg]
    intro hjn
    subst hjn
    exact hyc he
theorem Eb {L:List af} (hs:oK jq L) {y:af} (hy:y∈L):cW L y.Client=(y,true):=by
 have hh:ka jq L y.Client=true:=Bz.2 ⟨y,hy,rfl⟩
 obtain ⟨hk,he⟩:=(hs.has y.Client).1 hh
 unfold cW
 rw [hh,if_pos rfl,List.getElem?_eq_getElem hk]
 obtain ⟨j,hj,rfl⟩:=List.mem_iff_getElem.1 hy
 have Yl:j=o9 jq L L[j].Client:=by
  have he:L[o9 jq L L[j].Client].Client=L[j].Client:=he
  rcases Nat.lt_trichotomy j (o9 jq L L[j].Client) with dn|iV|dn
  ·have h5:L[j].Client<L[o9 jq L L[j].Client].Client:=hs.lt hk dn
   omega
  ·exact iV
  ·have h5:L[o9 jq L L[j].Client].Client<L[j].Client:=hs.lt hj dn
   omega
 congr 1
 show L[o9 jq L L[j].Client]=L[j]
 congr 1
 exact Yl.symm
theorem Nh {L:List af} {c:Int} (h: ∀y∈L,y.Client≠c):cW L c=(noR,false):=by
 unfold cW
 cases hh:ka jq L c with
 |false=>rfl
 |true=>
  obtain ⟨y,hy,he⟩:=Bz.1 hh
  exact absurd he (h y hy)
theorem GU {L:List af} {c:Int} (hs:oK jq L) (h:(cW L c).2=true):(cW L c).1∈L∧(cW L c).1.Client=c:=by
 unfold cW at h⊢
 cases hh:ka jq L c with
 |false=>rw [hh] at h;cases h
 |true=>
  obtain ⟨hk,he⟩:=(hs.has c).1 hh
  rw [if_pos rfl,List.getElem?_eq_getElem hk]
  exact ⟨List.getElem_mem hk,he⟩
theorem PA {L M:List af} (hs:oK jq L) (hm:oK jq M) {c c':Int} (h: ∀y:af,y.Client≠c→(y∈M↔y∈L)) (hc:c'≠c):cW M c'=cW L c':=by
 cases hl:(cW L c').2 with
 |true=>
  obtain ⟨h1,h2⟩:=GU hs hl
  have h3:=(h _ (by rw [h2];exact hc)).2 h1
  have h4:=Eb hm h3
  rw [h2] at h4
  rw [h4]
  exact Prod.ext rfl hl.symm
 |false=>
  have LN: ∀y∈L,y.Client≠c':=fun y hy he=>by
   have:=Eb hs hy
   rw [he] at this
   rw [this] at hl;cases hl
  rw [Nh LN,Nh fun y hy he=>LN y ((h y (by rw [he];exact hc)).1 hy) he]
theorem PB {r:ak} (h:en r) (o:au) {c:Int} (hc:c≠o.Client):cW (bk r o).1.Seen c=cW r.Seen c:=by
 have lq:=pR h o
 unfold bk at lq⊢
 cases hk:(cD r.Seen o).2 with
 |true=>rfl
 |false=>
  rw [hk,if_neg (by decide)] at lq
  rw [if_neg (by decide)]
  obtain ⟨hm,BZ,BM,uR⟩:=oN hk
  have hd:wc ⟨r,o,(cD r.Seen o).1,[]⟩ (fO r o):=Jt (w:=⟨r,o,(cD r.Seen o).1,[]⟩) h.toek
  have Nw:(fO r o).x.Client=o.Client:=by rw [hd.dY,BZ];rfl
  refine PA (c:=o.Client) h.inc lq.inc (fun y hy=> ?_) hc
  show y∈yb r.Seen o.Client (fO r o).x↔_
  rw [BI h.inc Nw]
  exact ⟨fun h=>h.elim (fun he=>absurd (by rw [he];exact Nw) hy) (fun h=>h.1),fun h=> .inr ⟨h,hy⟩⟩
theorem Ds {r:ak} (h:en r) (hn:Px r) (o:au):Px (bk r o).1∧(bk r o).2.1.Names.length≤1000:=by
 have YP:(cD r.Seen o).1.Names.length≤1000:=by
  unfold cD
  split
  ·exact Nat.zero_le _
  split
  ·rename_i hl
   split
   ·exact hn _ (GU h.inc hl).1
   split
   ·exact Nat.zero_le _
   ·exact Nat.zero_le _
  ·split
   ·exact Nat.zero_le _
   ·exact Nat.zero_le _
 unfold bk
 cases hk:(cD r.Seen o).2 with
 |true=>exact ⟨hn,YP⟩
 |false=>
  rw [if_neg (by decide)]
  obtain ⟨hm,BZ,BM,uR⟩:=oN hk
  have hd:wc ⟨r,o,(cD r.Seen o).1,[]⟩ (fO r o):=Jt (w:=⟨r,o,(cD r.Seen o).1,[]⟩) h.toek
  have Nw:(fO r o).x.Client=o.Client:=by rw [hd.dY,BZ];rfl
  have hx:(fO r o).x.Names.length≤1000:=W7 (w:=⟨r,o,(cD r.Seen o).1,[]⟩) h.toek YP
  refine ⟨fun y hy=> ?_,hx⟩
  rcases (BI h.inc Nw y).1 hy with rfl|⟨hy,_⟩
  ·exact hx
  ·exact hn y hy
theorem PC (l:List au): ∀{r:ak},en r→Px r→Px (zM r l):=by
 unfold zM
 induction l with
 |nil=>intro r h hn;exact hn
 |cons o l ih=>intro r h hn;exact ih (pR h o) (Ds h hn o).1
theorem SZ (l:List au) {c:Int}: ∀{r:ak},en r→(∀o∈l,o.Client≠c)→cW (zM r l).Seen c=cW r.Seen c:=by
 unfold zM
 induction l with
 |nil=>intro r h hn;rfl
 |cons o l ih=>
  intro r h hn
  rw [List.foldl_cons,ih (pR h o) (fun x hx=>hn x (List.mem_cons_of_mem _ hx)),PB h o (fun he=>hn o (by simp) he.symm)]
noncomputable def zN (st:ak×List af×List ba) (o:au):ak×List af×List ba:=((bk st.1 o).1,st.2.1++[(bk st.1 o).2.1],st.2.2++(bk st.1 o).2.2)
noncomputable def qm (r:ak) (l:List au):ak×List af×List ba:=l.foldl zN (r,[],[])
theorem Ju (l:List au): ∀{st:ak×List af×List ba},en st.1→(l.foldl zN st).1=zM st.1 l∧en (l.foldl zN st).1∧(l.foldl zN st).2.1.length=st.2.1.length+l.length∧(l.foldl zN st).2.2.length≤st.2.2.length+200 *l.length:=by
 induction l with
 |nil=>intro st h;exact ⟨rfl,h,rfl,by simp⟩
 |cons o l ih=>
  intro st h
  have DX:(bk st.1 o).2.2.length≤200:=by
   have:=(GR h o).2.2
   have:=h.table.len
   rcases (GR h o).2.2 with h|⟨h,_⟩
   ·omega
   ·rw [h];exact Nat.zero_le _
  obtain ⟨h1,h2,h3,h4⟩:=ih (st:=zN st o) (pR h o)
  rw [List.foldl_cons]
  refine ⟨h1,h2,?_,?_⟩
  ·rw [h3];unfold zN;dsimp only;simp only [List.length_append,List.length_cons,List.length_nil];omega
  ·refine Nat.le_trans h4 ?_
   unfold zN
   dsimp only
   rw [List.length_append,List.length_cons]
   omega
def W8 (s:ak×List af×List ba) (k:Int):(List ae)×Int×(List av)×(List al)×(List af)×(List af)×(List ba)×Int:=(s.1.Shelf.L,s.1.br.dK,s.1.br.L,s.1.bg.L,s.1.Seen,s.2.1,s.2.2,k)
theorem W9 {r:ak} (h:en r) (l:List au) (hl:l.length≤1000):rF r l=some (qm r l):=by
 unfold rF
 have fW:Loop (nD l) (W8 (r,[],[]) 0)=some ((qm r l).1.Shelf.L,(qm r l).1.br.dK,(qm r l).1.br.L,(qm r l).1.bg.L,(qm r l).1.Seen,(qm r l).2.1,(qm r l).2.2):=by
  refine bu.eq (bu.count (fun k=>W8 (qm r (l.take k)) (k:Int)) l.length (fun _=>True) rfl trivial (fun k hk _=> ?_) (fun _=> ?_))
  ·have hs:qm r (l.take (k+1))=zN (qm r (l.take k)) l[k]:=Ar hk
   rw [hs]
   obtain ⟨h1,h2,h3,h4⟩:=Ju (l.take k) (st:=(r,[],[])) h
   have h3:(qm r (l.take k)).2.1.length=0+(l.take k).length:=h3
   have h4:(qm r (l.take k)).2.2.length≤0+200 *(l.take k).length:=h4
   have h2:en (qm r (l.take k)).1:=h2
   rw [List.length_take] at h3 h4
   generalize qm r (l.take k)=s at h2 h3 h4
   have ha:=uQ h2 l[k]
   have DX:(bk s.1 l[k]).2.2.length≤200:=by
    have:=h2.table.len
    rcases (GR h2 l[k]).2.2 with h|⟨h,_⟩
    ·omega
    ·rw [h];exact Nat.zero_le _
   unfold nD W8
   dsimp only
   rw [if_pos (by omega),bt hk]
   refine bu.of (a:=Sum.inl (W8 (zN s l[k]) ((k+1:Nat):Int))) (dy ha ?_) ?_
   rotate_left
   ·exact ⟨rfl,trivial⟩
   rw [aA,if_pos (by simp only [List.length_cons,List.length_nil];omega),if_pos (by omega),wrap64 (by omega) (by omega)]
   rfl
  ·unfold nD W8
   dsimp only
   rw [if_neg (by omega),List.take_length]
   exact .mk rfl
 exact dy fW rfl
theorem Ni {r:ak} (h:en r) {o:au} (hm:HO o=true) (hw:((cW (bk r o).1.Seen o.Client).2=true∧ ¬(cW (bk r o).1.Seen o.Client).1.Seq<o.Seq)) {L:List af} (hL:cW L o.Client=cW (bk r o).1.Seen o.Client):
 cD L o=((bk r o).2.1,true)∧(bk r o).2.1.Client=o.Client:=by
 have hx: ∀M:List af,cW M o.Client=cW (bk r o).1.Seen o.Client→cD M o=(if (cW (bk r o).1.Seen o.Client).1.Seq=o.Seq then ((cW (bk r o).1.Seen o.Client).1,true) else (qh o 15,true)):=by
  intro M hM
  unfold cD
  rw [hm,if_neg (by decide),hM,hw.1,if_pos rfl]
  by_cases h1:(cW (bk r o).1.Seen o.Client).1.Seq=o.Seq
  ·rw [if_pos h1,if_pos h1]
  ·rw [if_neg h1,if_neg h1,if_pos (by have:=hw.2;omega)]
 rw [hx L hL]
 cases hk:(cD r.Seen o).2 with
 |true=>
  have e1:bk r o=(r,(cD r.Seen o).1,[]):=by unfold bk;rw [if_pos hk]
  have e2:=hx r.Seen (by rw [e1])
  rw [e1] at e2 hw⊢
  dsimp only at e2 hw⊢
  refine ⟨by rw [←e2];exact Prod.ext rfl hk,?_⟩
  rw [e2]
  split
  ·exact (GU h.inc hw.1).2
  ·rfl
 |false=>
  obtain ⟨_,BZ,BM,uR⟩:=oN hk
  have lq:=pR h o
  have hd:wc ⟨r,o,(cD r.Seen o).1,[]⟩ (fO r o):=Jt (w:=⟨r,o,(cD r.Seen o).1,[]⟩) h.toek
  have Nw:(fO r o).x.Client=o.Client:=by rw [hd.dY,BZ];rfl
  have hxs:(fO r o).x.Seq=o.Seq:=by rw [hd.seq,BZ];rfl
  have e1:(bk r o).1.Seen=yb r.Seen o.Client (fO r o).x:=by unfold bk;rw [hk,if_neg (by decide)]
  have e2:(bk r o).2.1=(fO r o).x:=by unfold bk;rw [hk,if_neg (by decide)]
  have sa:(fO r o).x∈(bk r o).1.Seen:=by rw [e1];exact (BI h.inc Nw _).2 (.inl rfl)
  have xq:=Eb lq.inc sa
  rw [Nw] at xq
  rw [xq,e2]
  dsimp only
  rw [if_pos hxs]
  exact ⟨rfl,Nw⟩
theorem Nj {r:ak} {o:au} {x:af} (h:cD r.Seen o=(x,true)):bk r o=(r,x,[]):=by
 unfold bk
 rw [h];rfl
theorem HP (r:ak) (o:au) (l:List au):oW r o l=some true:=by
 unfold oW
 obtain ⟨b1,e1,h1⟩:=W6 r
 obtain ⟨b2,e2,h2⟩:=GQ l
 obtain ⟨b3,e3,h3⟩:=GQ [o]
 rw [e1,aA,GP]
 cases b1 with
 |false=>rfl
 |true=>
 obtain ⟨hS,_,hN⟩:=h1 rfl
 rw [if_neg (by decide),e2,aA]
 cases b2 with
 |false=>rfl
 |true=>
 have hl:=h2 rfl
 rw [if_neg (by decide),e3,aA]
 cases b3 with
 |false=>rfl
 |true=>
 rw [if_neg (by decide),GS hS,aA]
 obtain ⟨b4,e4,h4⟩:=Dr hS
 rw [e4,aA,aA]
 cases b4 with
 |false=>rfl
 |true=>
 have lq:=h4.1 rfl
 have HQ:=pR lq o
 obtain ⟨hN2,hN3⟩:=Ds lq hN o
 obtain ⟨b5,e5,h5⟩:=Dr (BH HQ)
 have h5:=h5.2 HQ
 subst h5
 rw [if_neg (by decide),uQ lq,aA,GS (BH HQ),aA,e5,aA,if_neg (by decide),M9,aA]
 cases hm:HO o with
 |false=>
  have hk:cD r.Seen o=(qh o 1,true):=by unfold cD;rw [hm,if_pos rfl]
  have ha:bk r o=(r,qh o 1,[]):=by unfold bk;rw [hk];rfl
  rw [ha,if_pos (show (!false)=true from rfl),aA,if_pos rfl,if_pos (show (qh o 1).E=1 from rfl),nR hS hN];rfl
 |true=>
 rw [if_neg (by decide),KW HQ,aA]
 have hw2:(if (!(cW (bk r o).1.Seen o.Client).2)=true then some true else some (decide ((cW (bk r o).1.Seen o.Client).1.Seq<o.Seq)))=some (!((cW (bk r o).1.Seen o.Client).2&&!decide ((cW (bk r o).1.Seen o.Client).1.Seq<o.Seq))):=by
  cases (cW (bk r o).1.Seen o.Client).2<;>simp
 rw [hw2,aA]
 by_cases hw:(cW (bk r o).1.Seen o.Client).2=true∧ ¬(cW (bk r o).1.Seen o.Client).1.Seq<o.Seq
 rotate_left
 ·
  have hc:(!((cW (bk r o).1.Seen o.Client).2&&!decide ((cW (bk r o).1.Seen o.Client).1.Seq<o.Seq)))=true:=by
   by_cases ha:(cW (bk r o).1.Seen o.Client).2=true
   ·by_cases hb:(cW (bk r o).1.Seen o.Client).1.Seq<o.Seq
    ·rw [ha,decide_eq_true hb];rfl
    ·exact absurd ⟨ha,hb⟩ hw
   ·rw [Bool.not_eq_true] at ha;rw [ha];rfl
  rw [hc,if_pos rfl]
  have ahb:bk r o=(r,qh o 9,[]):=by
   cases hk:(cD r.Seen o).2 with
   |true=>
    have e1:bk r o=(r,(cD r.Seen o).1,[]):=by unfold bk;rw [if_pos hk]
    rw [e1] at hw
    dsimp only at hw
    rw [e1]
    unfold cD
    rw [hm,if_neg (by decide)]
    by_cases hl:(cW r.Seen o.Client).2=true
    ·exfalso
     unfold cD at hk
     rw [hm,if_neg (by decide),if_pos hl] at hk
     split at hk
     ·exact hw ⟨hl,by omega⟩
     split at hk
     ·exact hw ⟨hl,by omega⟩
     ·cases hk
    ·rw [if_neg hl]
     unfold cD at hk
     rw [hm,if_neg (by decide),if_neg hl] at hk
     split at hk
     ·rename_i h50;rw [if_pos h50]
     ·cases hk
   |false=>
    exfalso
    obtain ⟨_,BZ,BM,uR⟩:=oN hk
    have hd:wc ⟨r,o,(cD r.Seen o).1,[]⟩ (fO r o):=Jt (w:=⟨r,o,(cD r.Seen o).1,[]⟩) lq.toek
    have Nw:(fO r o).x.Client=o.Client:=by rw [hd.dY,BZ];rfl
    have hxs:(fO r o).x.Seq=o.Seq:=by rw [hd.seq,BZ];rfl
    have e1:(bk r o).1.Seen=yb r.Seen o.Client (fO r o).x:=by unfold bk;rw [hk,if_neg (by decide)]
    have sa:(fO r o).x∈(bk r o).1.Seen:=by rw [e1];exact (BI lq.inc Nw _).2 (.inl rfl)
    have xq:=Eb HQ.inc sa
    rw [Nw] at xq
    rw [xq] at hw
    exact hw ⟨rfl,by dsimp only;omega⟩
  rw [ahb,aA,if_pos rfl,if_pos (show (qh o 9).E=9 from rfl),nR hS hN];rfl
 have hc:(!((cW (bk r o).1.Seen o.Client).2&&!decide ((cW (bk r o).1.Seen o.Client).1.Seq<o.Seq)))=false:=by
  rw [hw.1,decide_eq_false hw.2];rfl
 rw [hc,if_neg (by decide)]
 obtain ⟨x,ex,hx⟩:=nP (body:=j0 o l) l.length (fun k=> ∃hk:k<l.length,l[k].Client≠o.Client) true (fun k hk _=>by
  unfold j0
  rw [if_pos (by omega),bt hk,GP,wrap64 (by omega) (by omega)]
  by_cases h:l[k].Client=o.Client
  ·rw [if_pos h];exact ⟨fun ⟨_,hh⟩=>absurd h hh,fun _=>rfl⟩
  ·rw [if_neg h];exact ⟨fun _=>rfl,fun hh=>absurd ⟨hk,h⟩ hh⟩) (by unfold j0;rw [if_neg (by omega)])
 rw [ex,aA]
 rcases hx with ⟨rfl,mb⟩|⟨rfl,k,hk,h⟩
 rotate_left
 ·rfl
 dsimp only
 have LN: ∀y∈l,y.Client≠o.Client:=fun y hy=>by
  obtain ⟨k,hk,rfl⟩:=List.mem_iff_getElem.1 hy
  exact (mb k hk).2
 have hfo:=Z6 l HQ
 obtain ⟨f1,f2,f3,f4⟩:=Ju l (st:=((bk r o).1,[],[])) HQ
 have f1:(qm (bk r o).1 l).1=zM (bk r o).1 l:=f1
 obtain ⟨k1,k2⟩:=Ni lq hm hw (SZ l HQ LN)
 have ha:bk (zM (bk r o).1 l) o=(zM (bk r o).1 l,(bk r o).2.1,[]):=Nj k1
 rw [W9 HQ l (by omega),aA,f1,uQ hfo,aA,ha]
 dsimp only
 rw [aA,if_pos rfl,nR (BH hfo) (PC l HQ hN2),aA,if_pos rfl,if_pos (show (([]:List ba).length:Int)=0 from rfl),show rm (bk r o).2.1=some (Av (bk r o).2.1) from rfl,aA,aA,KY _ (by omega),aA,if_pos rfl,decide_eq_true k2,aA]
end Dn.S
