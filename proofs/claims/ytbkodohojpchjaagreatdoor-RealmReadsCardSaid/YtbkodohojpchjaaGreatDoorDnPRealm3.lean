import Derived.Test.YtbkodohojpchjaaGreatDoorDnPRealm2
/-
  Realms: an order, from a realm to a realm. Conditions: none.
-/
open Go Dn
set_option linter.unusedVariables false
set_option linter.unusedSimpArgs false
namespace Dn.S
structure fM (r:ak):Prop extends eD r where
 inc:qC kG r.Seen
 few:r.Seen.length≤50
 seen: ∀x∈r.Seen,0≤x.Client∧x.Client≤1000∧1≤x.Seq
theorem Wq (o:av): ∃u,ia o=some u:=by
 unfold ia
 repeat' (first|exact ⟨_,rfl⟩|(split<;>try simp only [aC]))
theorem Wr (o:av):bq (nb o) fun b=>b=true→(0≤o.Client∧o.Client≤1000)∧(1≤o.Seq∧o.Seq≤1000000000)∧(0≤o.Kind∧o.Kind≤11)∧o.Path.length≤100∧o.Value.length≤1000:=by
 unfold nb
 obtain ⟨u,hu⟩:=Wq o
 rw [hu]
 by_cases h1:(0:Int)≤o.Client
 rotate_left
 ·rw [if_neg h1,aC,if_neg (by decide),aC];exact .mk (fun h=>by cases h)
 rw [if_pos h1]
 by_cases h2:o.Client≤1000
 rotate_left
 ·rw [if_neg h2,aC,if_neg (by decide),aC];exact .mk (fun h=>by cases h)
 rw [if_pos h2]
 by_cases h3:(1:Int)≤o.Seq
 rotate_left
 ·rw [if_neg h3,aC,if_neg (by decide),aC];exact .mk (fun h=>by cases h)
 rw [if_pos h3,aC]
 by_cases h4:o.Seq≤1000000000
 rotate_left
 ·rw [decide_eq_false h4,if_neg (by decide),aC];exact .mk (fun h=>by cases h)
 rw [decide_eq_true h4,if_pos rfl]
 by_cases h5:(0:Int)≤o.Kind
 rotate_left
 ·rw [if_neg h5,aC];exact .mk (fun h=>by cases h)
 rw [if_pos h5]
 by_cases h6:o.Kind≤11
 rotate_left
 ·rw [if_neg h6,aC];exact .mk (fun h=>by cases h)
 rw [if_pos h6]
 by_cases h7:(o.Path.length:Int)≤100
 rotate_left
 ·rw [if_neg h7,aC];exact .mk (fun h=>by cases h)
 rw [if_pos h7]
 by_cases h8:(o.Value.length:Int)≤1000
 rotate_left
 ·rw [if_neg h8,aC];exact .mk (fun h=>by cases h)
 rw [if_pos h8,aC,aC]
 exact .mk (fun _=>⟨⟨h1,h2⟩,⟨h3,h4⟩,⟨h5,h6⟩,by omega,by omega⟩)
noncomputable def Ac (o:av):Bool:=(nb o).getD false
theorem Ws (o:av):nb o=some (Ac o):=by
 obtain ⟨b,hb,_⟩:=Wr o
 unfold Ac;rw [hb];rfl
theorem KG {o:av} (h:Ac o=true):(0≤o.Client∧o.Client≤1000)∧(1≤o.Seq∧o.Seq≤1000000000)∧(0≤o.Kind∧o.Kind≤11)∧o.Path.length≤100∧o.Value.length≤1000:=by
 obtain ⟨b,hb,hp⟩:=Wr o
 refine hp ?_
 unfold Ac at h
 rw [hb] at h
 exact h
def noR:af:=⟨0,0,0,[],0,[]⟩
def j7 (L:List af) (c:Int):af×Bool:=if ki kG L c then ((L[oZ kG L c]?).getD noR,true) else (noR,false)
theorem Qx {r:ak} (h:fM r) (c:Int):oq r c=some (j7 r.Seen c):=by
 have hf:=h.few
 unfold oq j7
 rw [Jg h.inc (by omega),aC]
 dsimp only
 cases hh:ki kG r.Seen c with
 |false=>rfl
 |true=>
  obtain ⟨hk,he⟩:=(h.inc.has c).1 hh
  rw [if_neg (by decide),bx hk,if_pos rfl,List.getElem?_eq_getElem hk];rfl
def kj (o:av) (e:Int):af:=⟨o.Client,o.Seq,e,[],0,[]⟩
noncomputable def hU (L:List af) (o:av):af×Bool:=
 if Ac o=false then (kj o 1,true) else
 if (j7 L o.Client).2 then (if (j7 L o.Client).1.Seq=o.Seq then ((j7 L o.Client).1,true) else if o.Seq<(j7 L o.Client).1.Seq then (kj o 15,true) else (kj o 0,false))
 else if 50≤L.length then (kj o 9,true) else (kj o 0,false)
theorem Wt {r:ak} (h:fM r) (o:av):jb r o=some (hU r.Seen o):=by
 unfold jb hU
 rw [Qx h,aC,Ws,aC]
 cases hm:Ac o with
 |false=>rfl
 |true=>
  rw [if_neg (show¬(!true)=true by decide),if_neg (show¬true=false by decide)]
  cases hl:(j7 r.Seen o.Client).2 with
  |true=>
   rw [if_pos rfl,if_pos rfl,aC]
   by_cases h1:(j7 r.Seen o.Client).1.Seq=o.Seq
   ·rw [decide_eq_true h1,if_pos h1];rfl
   ·rw [decide_eq_false h1,if_neg h1,if_neg (by decide),if_pos rfl,aC]
    by_cases h2:o.Seq<(j7 r.Seen o.Client).1.Seq
    ·rw [decide_eq_true h2,if_pos h2];rfl
    ·rw [decide_eq_false h2,if_neg h2];rfl
  |false=>
   rw [if_neg (by decide),aC,if_neg (by decide),if_neg (by decide),aC,if_neg (by decide)]
   rw [if_pos (show (!false)=true from rfl),if_neg (by decide),aC]
   by_cases h3:50≤r.Seen.length
   ·rw [decide_eq_true (show (50:Int)≤(r.Seen.length:Int) by omega),if_pos h3];rfl
   ·rw [decide_eq_false (show¬(50:Int)≤(r.Seen.length:Int) by omega),if_neg h3];rfl
def Bx (L:List af) (c:Int) (x:af):List af:=if ki kG L c then L.set (oZ kG L c) x else Gv kG L x
noncomputable def fE (r:ak) (o:av):ai:=O8 ⟨r,o,(hU r.Seen o).1,[]⟩
noncomputable def cm (r:ak) (o:av):ak×af×List bc:=
 if (hU r.Seen o).2 then (r,(hU r.Seen o).1,[])
 else (⟨(fE r o).r.Shelf,(fE r o).r.bt,⟨(kC (fE r o).r.bh.L (fE r o).l).1⟩,Bx r.Seen o.Client (fE r o).x⟩,(fE r o).x,(kC (fE r o).r.bh.L (fE r o).l).2)
structure Cv (w v:ai):Prop extends eD v.r where
 o:v.o=w.o
 eE:v.x.Client=w.x.Client
 seq:v.x.Seq=w.x.Seq
 seen:v.r.Seen=w.r.Seen
 len:v.l.length≤w.l.length+250
theorem Sz {L M:List al} (h:Cr L) (hM:M.Sublist L):Cr M:=⟨Nat.le_trans hM.length_le h.len,fun x hx=>h.all x (hM.subset hx),List.Pairwise.sublist hM h.nodup⟩
theorem GN {w v:ai} {k:Int} (h:eD v.r) (h1:v.o=w.o) (h2:v.x.Client=w.x.Client) (h3:v.x.Seq=w.x.Seq) (h4:v.r.Seen=w.r.Seen) (h5:v.l.length≤w.l.length+249):Cv w (qa k v):=by
 unfold qa
 split
 ·exact ⟨h,h1,h2,h3,h4,by dsimp only;simp only [List.length_append,List.length_cons,List.length_nil];omega⟩
 ·exact ⟨h,h1,h2,h3,h4,by omega⟩
theorem pK {r:ak} (h:eD r) {L:List ae} (hL:gO L):eD {r with Shelf:=⟨L⟩}:=⟨hL,h.book,h.table⟩
theorem oK {r:ak} (h:eD r) {b:aD} (hb:jj b):eD {r with bt:=b}:=⟨h.shelf,hb,h.table⟩
theorem SA {w v:ai} (h:eD v.r) (h1:v.o=w.o) (h2:v.x.Client=w.x.Client) (h3:v.x.Seq=w.x.Seq) (h4:v.r.Seen=w.r.Seen) (h5:v.l.length≤w.l.length) (id:Int):Cv w (xK v id):=by
 have hl:=Cu v.r.Shelf.L id
 have hs:=h.shelf.len
 refine ⟨pK h (Ql h.shelf id),h1,h2,h3,h4,?_⟩
 unfold xK
 dsimp only
 rw [List.length_append,List.length_map]
 omega
theorem Dg (ids:List Int): ∀{v:ai},eD v.r→eD (li v ids).r∧(li v ids).o=v.o∧(li v ids).x=v.x∧(li v ids).r.Seen=v.r.Seen∧(li v ids).r.bt=v.r.bt∧(li v ids).r.bh=v.r.bh:=by
 unfold li
 induction ids with
 |nil=>intro v h;exact ⟨h,rfl,rfl,rfl,rfl,rfl⟩
 |cons i ids ih=>
  intro v h
  obtain ⟨h1,h2,h3,h4,h5,h6⟩:=ih (v:=xK v i) (pK h (Ql h.shelf i))
  exact ⟨h1,h2,h3,h4,h5,h6⟩
theorem SB {L:List al} (h:Cr L) (w:al):Cr (Cs L w).1:=by
 unfold Cs
 split
 ·exact h
 rename_i h1
 split
 ·exact h
 rename_i h2
 split
 ·exact h
 rename_i h3
 split
 ·exact h
 rename_i h4
 refine ⟨by dsimp only;simp only [List.length_append,List.length_cons,List.length_nil];omega,fun x hx=> ?_,?_⟩
 ·rcases List.mem_append.1 hx with hx|hx
  ·exact h.all x hx
  ·rw [List.mem_singleton.1 hx]
   exact ⟨by simpa using h1,by omega⟩
 ·dsimp only
  rw [List.nodup_append]
  refine ⟨h.nodup,by simp,fun x hx y hy M5=> ?_⟩
  rw [List.mem_singleton.1 hy] at M5
  exact h3 (M5▸hx)
theorem Wu {w:ai} (h:eD w.r):Cv w (O8 w):=by
 have hs:=h.shelf.len
 unfold O8
 split
 ·exact ⟨h,rfl,rfl,rfl,rfl,by omega⟩
 split
 ·unfold Bw
  split
  ·exact ⟨h,rfl,rfl,rfl,rfl,by show w.l.length≤_;omega⟩
  ·exact GN (pK h (O1 h.shelf _ _ _)) rfl rfl rfl rfl (by show w.l.length≤_;omega)
 split
 ·exact ⟨h,rfl,rfl,rfl,rfl,by show w.l.length≤_;omega⟩
 split
 ·unfold HM MO
  have hc:Cv w (qa 2 (lj w (gZ w.r.Shelf.L w.o.Path w.o.Value w.o.Version))):=GN (pK h (DZ h.shelf _ _ _)) rfl rfl rfl rfl (by show w.l.length≤_;omega)
  generalize qa 2 (lj w (gZ w.r.Shelf.L w.o.Path w.o.Value w.o.Version))=v at hc
  split
  ·exact ⟨hc.toeD,hc.o,hc.eE,hc.seq,hc.seen,hc.len⟩
  ·exact hc
 split
 ·exact GN (pK h (Y8 h.shelf _ _)) rfl rfl rfl rfl (by show w.l.length≤_;omega)
 split
 ·exact ⟨h,rfl,rfl,rfl,rfl,by show w.l.length≤_;omega⟩
 split
 ·exact ⟨oK h (Zj h.book _ _),rfl,rfl,rfl,rfl,by show w.l.length≤_;omega⟩
 split
 ·exact ⟨oK h (Wh h.book _).1,rfl,rfl,rfl,rfl,by show w.l.length≤_;omega⟩
 split
 ·unfold GM
  split
  ·exact SA (w:=w) (v:=GL w (rV w.r.bt w.o.Session)) (oK h (MM h.book w.o.Session)) rfl rfl rfl rfl (Nat.le_refl _) _
  ·exact ⟨oK h (MM h.book _),rfl,rfl,rfl,rfl,by show w.l.length≤_;omega⟩
 split
 ·unfold MP
  split
  ·rename_i he
   have hd:=Jh (Bv w.r.bt w.o.Span) (Ab w)
   obtain ⟨h1,h2,h3,h4,h5,h6⟩:=Dg (Bv w.r.bt w.o.Span) (v:=Ab w) (oK h (Qw h.book he))
   have e1:(Ab w).l.length=w.l.length:=rfl
   have e2:(Ab w).r.Shelf.L.length=w.r.Shelf.L.length:=rfl
   exact ⟨h1,h2,by rw [h3];rfl,by rw [h3];rfl,h4,by omega⟩
  ·exact ⟨h,rfl,rfl,rfl,rfl,by show w.l.length≤_;omega⟩
 ·exact ⟨⟨h.shelf,h.book,SB h.table _⟩,rfl,rfl,rfl,rfl,by show w.l.length≤_;omega⟩
theorem Cw {L:List af} {o:av} (h:(hU L o).2=false):Ac o=true∧(hU L o).1=kj o 0∧((j7 L o.Client).2=true→(j7 L o.Client).1.Seq<o.Seq)∧((j7 L o.Client).2=false→L.length<50):=by
 unfold hU at h⊢
 split at h
 ·cases h
 rename_i h1
 have hm:Ac o=true:=by simpa using h1
 rw [if_neg h1]
 split at h
 ·rename_i h2
  rw [if_pos h2]
  split at h
  ·cases h
  rename_i h3
  split at h
  ·cases h
  rename_i h4
  rw [if_neg h3,if_neg h4]
  exact ⟨hm,rfl,fun _=>by omega,fun hh=>by rw [hh] at h2;cases h2⟩
 ·rename_i h2
  rw [if_neg h2]
  split at h
  ·cases h
  rename_i h3
  rw [if_neg h3]
  exact ⟨hm,rfl,fun hh=>absurd hh h2,fun _=>by omega⟩
theorem Wv (L:List af) (c:Int):(j7 L c).2=ki kG L c:=by
 unfold j7
 cases ki kG L c<;>rfl
theorem Cx {r:ak} (h:fM r) (o:av):kT r o=some (cm r o):=by
 have hf:=h.few
 unfold kT cm fE
 rw [Wt h,aC]
 cases hk:(hU r.Seen o).2 with
 |true=>rfl
 |false=>
  rw [if_neg (by decide),if_neg (by decide)]
  obtain ⟨hm,K6,DQ,wK⟩:=Cw hk
  have hp:=KG hm
  have hs:=h.shelf.len
  have hd:=Wu (w:=⟨r,o,(hU r.Seen o).1,[]⟩) h.toeD
  refine (Zo (w:=⟨r,o,(hU r.Seen o).1,[]⟩) h.toeD (by dsimp only [List.length_nil];omega) hp.2.2.1 _).trans ?_
  have hxc:(O8 ⟨r,o,(hU r.Seen o).1,[]⟩).x.Client=o.Client:=by rw [hd.eE,K6];rfl
  have ht:=hd.table.len
  have hlen:=hd.len
  generalize O8 ⟨r,o,(hU r.Seen o).1,[]⟩=w at hd ht hlen hxc
  dsimp only
  dsimp only [List.length_nil] at hlen
  rw [Ze w.r.bh w.l (by omega) (by omega),aC,yA (by omega),aC,Jg h.inc (by omega),aC]
  dsimp only
  unfold Bx
  cases hh:ki kG r.Seen o.Client with
  |true=>
   obtain ⟨JF,he⟩:=(h.inc.has o.Client).1 hh
   rw [if_pos rfl,if_pos rfl,bx JF,aC,Int.toNat_natCast]
  |false=>
   have hi:=Gw (key:=kG) (L:=r.Seen) (a:=w.x) (by':=72) (by omega)
   have hi:qo 72 r.Seen (oZ kG r.Seen o.Client:Int) [w.x]=some (Gv kG r.Seen w.x):=by
    rw [←hxc];exact hi
   rw [if_neg (by decide),if_neg (by decide),hi,aC,aC]
theorem Zp {r:ak} (h:fM r) {c:Int} {x:af} (hx:x.Client=c) (hc:0≤c∧c≤1000∧1≤x.Seq) (hl:ki kG r.Seen c=false→r.Seen.length<50):
 qC kG (Bx r.Seen c x)∧(Bx r.Seen c x).length≤50∧ ∀y∈Bx r.Seen c x,0≤y.Client∧y.Client≤1000∧1≤y.Seq:=by
 unfold Bx
 subst hx
 cases hh:ki kG r.Seen x.Client with
 |true=>
  obtain ⟨hk,he⟩:=(h.inc.has x.Client).1 hh
  rw [if_pos rfl]
  refine ⟨MK (ML hk he.symm) h.inc,by rw [List.length_set];exact h.few,fun y hy=> ?_⟩
  rcases List.mem_or_eq_of_mem_set hy with hy|rfl
  ·exact h.seen y hy
  ·exact hc
 |false=>
  rw [if_neg (by decide)]
  refine ⟨Qu h.inc hh,by rw [Qv];have:=hl hh;omega,fun y hy=> ?_⟩
  rcases KF.1 hy with hy|rfl
  ·exact h.seen y hy
  ·exact hc
theorem uF {r:ak} (h:fM r) (o:av):fM (cm r o).1:=by
 unfold cm
 cases hk:(hU r.Seen o).2 with
 |true=>exact h
 |false=>
  rw [if_neg (by decide)]
  obtain ⟨hm,K6,DQ,wK⟩:=Cw hk
  have hp:=KG hm
  have hd:Cv ⟨r,o,(hU r.Seen o).1,[]⟩ (fE r o):=Wu (w:=⟨r,o,(hU r.Seen o).1,[]⟩) h.toeD
  have hxc:(fE r o).x.Client=o.Client:=by rw [hd.eE,K6];rfl
  have hxs:(fE r o).x.Seq=o.Seq:=by rw [hd.seq,K6];rfl
  obtain ⟨s1,s2,s3⟩:=Zp h hxc ⟨hp.1.1,hp.1.2,by rw [hxs];exact hp.2.1.1⟩ (fun hh=>wK (by rw [Wv];exact hh))
  refine ⟨⟨hd.shelf,hd.book,?_⟩,s1,s2,s3⟩
  dsimp only
  rw [Qr]
  exact Sz hd.table List.filter_sublist
end Dn.S
