import Derived.Test.YtbkodohojpchjaaGreatDoorDnPRealm2
/-
  Realms: an order, from a realm to a realm. Conditions: none.
-/
open Go Dn
set_option linter.unusedVariables false
set_option linter.unusedSimpArgs false
namespace Dn.S
structure en (r:ak):Prop extends ek r where
 inc:oK jq r.Seen
 few:r.Seen.length≤50
 seen: ∀x∈r.Seen,0≤x.Client∧x.Client≤1000∧1≤x.Seq
theorem WT (o:au): ∃u,jV o=some u:=by
 unfold jV
 repeat' (first|exact ⟨_,rfl⟩|(split<;>try simp only [aA]))
theorem WU (o:au):bu (nh o) fun b=>b=true→(0≤o.Client∧o.Client≤1000)∧(1≤o.Seq∧o.Seq≤1000000000)∧(0≤o.Kind∧o.Kind≤11)∧o.Path.length≤100∧o.Value.length≤1000:=by
 unfold nh
 obtain ⟨u,hu⟩:=WT o
 rw [hu]
 by_cases h1:(0:Int)≤o.Client
 rotate_left
 ·rw [if_neg h1,aA,if_neg (by decide),aA];exact .mk (fun h=>by cases h)
 rw [if_pos h1]
 by_cases h2:o.Client≤1000
 rotate_left
 ·rw [if_neg h2,aA,if_neg (by decide),aA];exact .mk (fun h=>by cases h)
 rw [if_pos h2]
 by_cases h3:(1:Int)≤o.Seq
 rotate_left
 ·rw [if_neg h3,aA,if_neg (by decide),aA];exact .mk (fun h=>by cases h)
 rw [if_pos h3,aA]
 by_cases h4:o.Seq≤1000000000
 rotate_left
 ·rw [decide_eq_false h4,if_neg (by decide),aA];exact .mk (fun h=>by cases h)
 rw [decide_eq_true h4,if_pos rfl]
 by_cases h5:(0:Int)≤o.Kind
 rotate_left
 ·rw [if_neg h5,aA];exact .mk (fun h=>by cases h)
 rw [if_pos h5]
 by_cases h6:o.Kind≤11
 rotate_left
 ·rw [if_neg h6,aA];exact .mk (fun h=>by cases h)
 rw [if_pos h6]
 by_cases h7:(o.Path.length:Int)≤100
 rotate_left
 ·rw [if_neg h7,aA];exact .mk (fun h=>by cases h)
 rw [if_pos h7]
 by_cases h8:(o.Value.length:Int)≤1000
 rotate_left
 ·rw [if_neg h8,aA];exact .mk (fun h=>by cases h)
 rw [if_pos h8,aA,aA]
 exact .mk (fun _=>⟨⟨h1,h2⟩,⟨h3,h4⟩,⟨h5,h6⟩,by omega,by omega⟩)
noncomputable def HO (o:au):Bool:=(nh o).getD false
theorem M9 (o:au):nh o=some (HO o):=by
 obtain ⟨b,hb,_⟩:=WU o
 unfold HO;rw [hb];rfl
theorem KV {o:au} (h:HO o=true):(0≤o.Client∧o.Client≤1000)∧(1≤o.Seq∧o.Seq≤1000000000)∧(0≤o.Kind∧o.Kind≤11)∧o.Path.length≤100∧o.Value.length≤1000:=by
 obtain ⟨b,hb,hp⟩:=WU o
 refine hp ?_
 unfold HO at h
 rw [hb] at h
 exact h
def noR:af:=⟨0,0,0,[],0,[]⟩
def cW (L:List af) (c:Int):af×Bool:=if ka jq L c then ((L[o9 jq L c]?).getD noR,true) else (noR,false)
theorem KW {r:ak} (h:en r) (c:Int):mN r c=some (cW r.Seen c):=by
 have hf:=h.few
 unfold mN cW
 rw [Jp h.inc (by omega),aA]
 dsimp only
 cases hh:ka jq r.Seen c with
 |false=>rfl
 |true=>
  obtain ⟨hk,he⟩:=(h.inc.has c).1 hh
  rw [if_neg (by decide),bt hk,if_pos rfl,List.getElem?_eq_getElem hk];rfl
def qh (o:au) (e:Int):af:=⟨o.Client,o.Seq,e,[],0,[]⟩
noncomputable def cD (L:List af) (o:au):af×Bool:=
 if HO o=false then (qh o 1,true) else
 if (cW L o.Client).2 then (if (cW L o.Client).1.Seq=o.Seq then ((cW L o.Client).1,true) else if o.Seq<(cW L o.Client).1.Seq then (qh o 15,true) else (qh o 0,false))
 else if 50≤L.length then (qh o 9,true) else (qh o 0,false)
theorem WV {r:ak} (h:en r) (o:au):jc r o=some (cD r.Seen o):=by
 unfold jc cD
 rw [KW h,aA,M9,aA]
 cases hm:HO o with
 |false=>rfl
 |true=>
  rw [if_neg (show¬(!true)=true by decide),if_neg (show¬true=false by decide)]
  cases hl:(cW r.Seen o.Client).2 with
  |true=>
   rw [if_pos rfl,if_pos rfl,aA]
   by_cases h1:(cW r.Seen o.Client).1.Seq=o.Seq
   ·rw [decide_eq_true h1,if_pos h1];rfl
   ·rw [decide_eq_false h1,if_neg h1,if_neg (by decide),if_pos rfl,aA]
    by_cases h2:o.Seq<(cW r.Seen o.Client).1.Seq
    ·rw [decide_eq_true h2,if_pos h2];rfl
    ·rw [decide_eq_false h2,if_neg h2];rfl
  |false=>
   rw [if_neg (by decide),aA,if_neg (by decide),if_neg (by decide),aA,if_neg (by decide)]
   rw [if_pos (show (!false)=true from rfl),if_neg (by decide),aA]
   by_cases h3:50≤r.Seen.length
   ·rw [decide_eq_true (show (50:Int)≤(r.Seen.length:Int) by omega),if_pos h3];rfl
   ·rw [decide_eq_false (show¬(50:Int)≤(r.Seen.length:Int) by omega),if_neg h3];rfl
def yb (L:List af) (c:Int) (x:af):List af:=if ka jq L c then L.set (o9 jq L c) x else Gv jq L x
noncomputable def fO (r:ak) (o:au):ai:=Pw ⟨r,o,(cD r.Seen o).1,[]⟩
noncomputable def bk (r:ak) (o:au):ak×af×List ba:=
 if (cD r.Seen o).2 then (r,(cD r.Seen o).1,[])
 else (⟨(fO r o).r.Shelf,(fO r o).r.br,⟨(kD (fO r o).r.bg.L (fO r o).l).1⟩,yb r.Seen o.Client (fO r o).x⟩,(fO r o).x,(kD (fO r o).r.bg.L (fO r o).l).2)
structure wc (w v:ai):Prop extends ek v.r where
 o:v.o=w.o
 dY:v.x.Client=w.x.Client
 seq:v.x.Seq=w.x.Seq
 seen:v.r.Seen=w.r.Seen
 len:v.l.length≤w.l.length+250
theorem SV {L M:List al} (h:CC L) (hM:M.Sublist L):CC M:=⟨Nat.le_trans hM.length_le h.len,fun x hx=>h.all x (hM.subset hx),List.Pairwise.sublist hM h.nodup⟩
theorem GM {w v:ai} {k:Int} (h:ek v.r) (h1:v.o=w.o) (h2:v.x.Client=w.x.Client) (h3:v.x.Seq=w.x.Seq) (h4:v.r.Seen=w.r.Seen) (h5:v.l.length≤w.l.length+249):wc w (tO k v):=by
 unfold tO
 split
 ·exact ⟨h,h1,h2,h3,h4,by dsimp only;simp only [List.length_append,List.length_cons,List.length_nil];omega⟩
 ·exact ⟨h,h1,h2,h3,h4,by omega⟩
theorem pQ {r:ak} (h:ek r) {L:List ae} (hL:iW L):ek {r with Shelf:=⟨L⟩}:=⟨hL,h.book,h.table⟩
theorem mX {r:ak} (h:ek r) {b:aC} (hb:jn b):ek {r with br:=b}:=⟨h.shelf,hb,h.table⟩
theorem SW {w v:ai} (h:ek v.r) (h1:v.o=w.o) (h2:v.x.Client=w.x.Client) (h3:v.x.Seq=w.x.Seq) (h4:v.r.Seen=w.r.Seen) (h5:v.l.length≤w.l.length) (id:Int):wc w (xZ v id):=by
 have hl:=CF v.r.Shelf.L id
 have hs:=h.shelf.len
 refine ⟨pQ h (QL h.shelf id),h1,h2,h3,h4,?_⟩
 unfold xZ
 dsimp only
 rw [List.length_append,List.length_map]
 omega
theorem yc (ids:List Int): ∀{v:ai},ek v.r→ek (li v ids).r∧(li v ids).o=v.o∧(li v ids).x=v.x∧(li v ids).r.Seen=v.r.Seen∧(li v ids).r.br=v.r.br∧(li v ids).r.bg=v.r.bg:=by
 unfold li
 induction ids with
 |nil=>intro v h;exact ⟨h,rfl,rfl,rfl,rfl,rfl⟩
 |cons i ids ih=>
  intro v h
  obtain ⟨h1,h2,h3,h4,h5,h6⟩:=ih (v:=xZ v i) (pQ h (QL h.shelf i))
  exact ⟨h1,h2,h3,h4,h5,h6⟩
theorem SX {L:List al} (h:CC L) (w:al):CC (CD L w).1:=by
 unfold CD
 split
 ·exact h
 rename_i h1
 split
 ·exact h
 rename_i h2
 split
 ·exact h
 rename_i h3
 split
 ·exact h
 rename_i h4
 refine ⟨by dsimp only;simp only [List.length_append,List.length_cons,List.length_nil];omega,fun x hx=> ?_,?_⟩
 ·rcases List.mem_append.1 hx with hx|hx
  ·exact h.all x hx
  ·rw [List.mem_singleton.1 hx]
   exact ⟨by simpa using h1,by omega⟩
 ·dsimp only
  rw [List.nodup_append]
  refine ⟨h.nodup,by simp,fun x hx y hy Nr=> ?_⟩
  rw [List.mem_singleton.1 hy] at Nr
  exact h3 (Nr▸hx)
theorem Jt {w:ai} (h:ek w.r):wc w (Pw w):=by
 have hs:=h.shelf.len
 unfold Pw
 split
 ·exact ⟨h,rfl,rfl,rfl,rfl,by omega⟩
 split
 ·unfold yT
  split
  ·exact ⟨h,rfl,rfl,rfl,rfl,by show w.l.length≤_;omega⟩
  ·exact GM (pQ h (Po h.shelf _ _ _)) rfl rfl rfl rfl (by show w.l.length≤_;omega)
 split
 ·exact ⟨h,rfl,rfl,rfl,rfl,by show w.l.length≤_;omega⟩
 split
 ·unfold SR M8
  have hc:wc w (tO 2 (oM w (BE w.r.Shelf.L w.o.Path w.o.Value w.o.Version))):=GM (pQ h (QO h.shelf _ _ _)) rfl rfl rfl rfl (by show w.l.length≤_;omega)
  generalize tO 2 (oM w (BE w.r.Shelf.L w.o.Path w.o.Value w.o.Version))=v at hc
  split
  ·exact ⟨hc.toek,hc.o,hc.dY,hc.seq,hc.seen,hc.len⟩
  ·exact hc
 split
 ·exact GM (pQ h (ZO h.shelf _ _)) rfl rfl rfl rfl (by show w.l.length≤_;omega)
 split
 ·exact ⟨h,rfl,rfl,rfl,rfl,by show w.l.length≤_;omega⟩
 split
 ·exact ⟨mX h (ZU h.book _ _),rfl,rfl,rfl,rfl,by show w.l.length≤_;omega⟩
 split
 ·exact ⟨mX h (WK h.book _).1,rfl,rfl,rfl,rfl,by show w.l.length≤_;omega⟩
 split
 ·unfold CG
  split
  ·exact SW (w:=w) (v:=GL w (r6 w.r.br w.o.Session)) (mX h (M6 h.book w.o.Session)) rfl rfl rfl rfl (Nat.le_refl _) _
  ·exact ⟨mX h (M6 h.book _),rfl,rfl,rfl,rfl,by show w.l.length≤_;omega⟩
 split
 ·unfold Jr
  split
  ·rename_i he
   have hd:=Jq (zL w.r.br w.o.Span) (ya w)
   obtain ⟨h1,h2,h3,h4,h5,h6⟩:=yc (zL w.r.br w.o.Span) (v:=ya w) (mX h (KU h.book he))
   have e1:(ya w).l.length=w.l.length:=rfl
   have e2:(ya w).r.Shelf.L.length=w.r.Shelf.L.length:=rfl
   exact ⟨h1,h2,by rw [h3];rfl,by rw [h3];rfl,h4,by omega⟩
  ·exact ⟨h,rfl,rfl,rfl,rfl,by show w.l.length≤_;omega⟩
 ·exact ⟨⟨h.shelf,h.book,SX h.table _⟩,rfl,rfl,rfl,rfl,by show w.l.length≤_;omega⟩
theorem oN {L:List af} {o:au} (h:(cD L o).2=false):HO o=true∧(cD L o).1=qh o 0∧((cW L o.Client).2=true→(cW L o.Client).1.Seq<o.Seq)∧((cW L o.Client).2=false→L.length<50):=by
 unfold cD at h⊢
 split at h
 ·cases h
 rename_i h1
 have hm:HO o=true:=by simpa using h1
 rw [if_neg h1]
 split at h
 ·rename_i h2
  rw [if_pos h2]
  split at h
  ·cases h
  rename_i h3
  split at h
  ·cases h
  rename_i h4
  rw [if_neg h3,if_neg h4]
  exact ⟨hm,rfl,fun _=>by omega,fun hh=>by rw [hh] at h2;cases h2⟩
 ·rename_i h2
  rw [if_neg h2]
  split at h
  ·cases h
  rename_i h3
  rw [if_neg h3]
  exact ⟨hm,rfl,fun hh=>absurd hh h2,fun _=>by omega⟩
theorem WW (L:List af) (c:Int):(cW L c).2=ka jq L c:=by
 unfold cW
 cases ka jq L c<;>rfl
theorem uQ {r:ak} (h:en r) (o:au):iy r o=some (bk r o):=by
 have hf:=h.few
 unfold iy bk fO
 rw [WV h,aA]
 cases hk:(cD r.Seen o).2 with
 |true=>rfl
 |false=>
  rw [if_neg (by decide),if_neg (by decide)]
  obtain ⟨hm,BZ,BM,uR⟩:=oN hk
  have hp:=KV hm
  have hs:=h.shelf.len
  have hd:=Jt (w:=⟨r,o,(cD r.Seen o).1,[]⟩) h.toek
  refine (ZZ (w:=⟨r,o,(cD r.Seen o).1,[]⟩) h.toek (by dsimp only [List.length_nil];omega) hp.2.2.1 _).trans ?_
  have Nw:(Pw ⟨r,o,(cD r.Seen o).1,[]⟩).x.Client=o.Client:=by rw [hd.dY,BZ];rfl
  have ht:=hd.table.len
  have hlen:=hd.len
  generalize Pw ⟨r,o,(cD r.Seen o).1,[]⟩=w at hd ht hlen Nw
  dsimp only
  dsimp only [List.length_nil] at hlen
  rw [ZQ w.r.bg w.l (by omega) (by omega),aA,yN (by omega),aA,Jp h.inc (by omega),aA]
  dsimp only
  unfold yb
  cases hh:ka jq r.Seen o.Client with
  |true=>
   obtain ⟨JS,he⟩:=(h.inc.has o.Client).1 hh
   rw [if_pos rfl,if_pos rfl,bt JS,aA,Int.toNat_natCast]
  |false=>
   have hi:=Gw (key:=jq) (L:=r.Seen) (a:=w.x) (by':=72) (by omega)
   have hi:qx 72 r.Seen (o9 jq r.Seen o.Client:Int) [w.x]=some (Gv jq r.Seen w.x):=by
    rw [←Nw];exact hi
   rw [if_neg (by decide),if_neg (by decide),hi,aA,aA]
theorem Z3 {r:ak} (h:en r) {c:Int} {x:af} (hx:x.Client=c) (hc:0≤c∧c≤1000∧1≤x.Seq) (hl:ka jq r.Seen c=false→r.Seen.length<50):
 oK jq (yb r.Seen c x)∧(yb r.Seen c x).length≤50∧ ∀y∈yb r.Seen c x,0≤y.Client∧y.Client≤1000∧1≤y.Seq:=by
 unfold yb
 subst hx
 cases hh:ka jq r.Seen x.Client with
 |true=>
  obtain ⟨hk,he⟩:=(h.inc.has x.Client).1 hh
  rw [if_pos rfl]
  refine ⟨M4 (M5 hk he.symm) h.inc,by rw [List.length_set];exact h.few,fun y hy=> ?_⟩
  rcases List.mem_or_eq_of_mem_set hy with hy|rfl
  ·exact h.seen y hy
  ·exact hc
 |false=>
  rw [if_neg (by decide)]
  refine ⟨QS h.inc hh,by rw [QT];have:=hl hh;omega,fun y hy=> ?_⟩
  rcases KT.1 hy with hy|rfl
  ·exact h.seen y hy
  ·exact hc
theorem pR {r:ak} (h:en r) (o:au):en (bk r o).1:=by
 unfold bk
 cases hk:(cD r.Seen o).2 with
 |true=>exact h
 |false=>
  rw [if_neg (by decide)]
  obtain ⟨hm,BZ,BM,uR⟩:=oN hk
  have hp:=KV hm
  have hd:wc ⟨r,o,(cD r.Seen o).1,[]⟩ (fO r o):=Jt (w:=⟨r,o,(cD r.Seen o).1,[]⟩) h.toek
  have Nw:(fO r o).x.Client=o.Client:=by rw [hd.dY,BZ];rfl
  have hxs:(fO r o).x.Seq=o.Seq:=by rw [hd.seq,BZ];rfl
  obtain ⟨s1,s2,s3⟩:=Z3 h Nw ⟨hp.1.1,hp.1.2,by rw [hxs];exact hp.2.1.1⟩ (fun hh=>uR (by rw [WW];exact hh))
  refine ⟨⟨hd.shelf,hd.book,?_⟩,s1,s2,s3⟩
  dsimp only
  rw [QP]
  exact SV hd.table List.filter_sublist
end Dn.S
