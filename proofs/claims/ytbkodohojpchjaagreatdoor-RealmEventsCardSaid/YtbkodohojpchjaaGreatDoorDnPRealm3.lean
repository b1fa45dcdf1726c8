import Derived.Test.YtbkodohojpchjaaGreatDoorDnPRealm2
/-
  Realms: an order, from a realm to a realm. Conditions: none.
-/
open Go Dn
set_option linter.unusedVariables false
set_option linter.unusedSimpArgs false
namespace Dn.S
structure kP (r:au):Prop extends dQ r where
 inc:sY ug r.Seen
 few:r.Seen.length≤50
 seen: ∀x∈r.Seen,0≤x.Client∧x.Client≤1000∧1≤x.Seq
theorem SJ (o:av): ∃u,ji o=some u:=by
 unfold ji
 repeat' (first|exact ⟨_,rfl⟩|(split<;>try simp only [aR]))
theorem SK (o:av):bV (ny o) fun b=>b=true→(0≤o.Client∧o.Client≤1000)∧(1≤o.Seq∧o.Seq≤1000000000)∧(0≤o.Kind∧o.Kind≤11)∧o.Path.length≤100∧o.Value.length≤1000:=by
 unfold ny
 obtain ⟨u,hu⟩:=SJ o
 rw [hu]
 by_cases h1:(0:Int)≤o.Client
 rotate_left
 ·rw [if_neg h1,aR,if_neg (by decide),aR];exact .mk (fun h=>by cases h)
 rw [if_pos h1]
 by_cases h2:o.Client≤1000
 rotate_left
 ·rw [if_neg h2,aR,if_neg (by decide),aR];exact .mk (fun h=>by cases h)
 rw [if_pos h2]
 by_cases h3:(1:Int)≤o.Seq
 rotate_left
 ·rw [if_neg h3,aR,if_neg (by decide),aR];exact .mk (fun h=>by cases h)
 rw [if_pos h3,aR]
 by_cases h4:o.Seq≤1000000000
 rotate_left
 ·rw [decide_eq_false h4,if_neg (by decide),aR];exact .mk (fun h=>by cases h)
 rw [decide_eq_true h4,if_pos rfl]
 by_cases h5:(0:Int)≤o.Kind
 rotate_left
 ·rw [if_neg h5,aR];exact .mk (fun h=>by cases h)
 rw [if_pos h5]
 by_cases h6:o.Kind≤11
 rotate_left
 ·rw [if_neg h6,aR];exact .mk (fun h=>by cases h)
 rw [if_pos h6]
 by_cases h7:(o.Path.length:Int)≤100
 rotate_left
 ·rw [if_neg h7,aR];exact .mk (fun h=>by cases h)
 rw [if_pos h7]
 by_cases h8:(o.Value.length:Int)≤1000
 rotate_left
 ·rw [if_neg h8,aR];exact .mk (fun h=>by cases h)
 rw [if_pos h8,aR,aR]
 exact .mk (fun _=>⟨⟨h1,h2⟩,⟨h3,h4⟩,⟨h5,h6⟩,by omega,by omega⟩)
noncomputable def JM (o:av):Bool:=(ny o).getD false
theorem SL (o:av):ny o=some (JM o):=by
 obtain ⟨b,hb,_⟩:=SK o
 unfold JM;rw [hb];rfl
theorem HI {o:av} (h:JM o=true):(0≤o.Client∧o.Client≤1000)∧(1≤o.Seq∧o.Seq≤1000000000)∧(0≤o.Kind∧o.Kind≤11)∧o.Path.length≤100∧o.Value.length≤1000:=by
 obtain ⟨b,hb,hp⟩:=SK o
 refine hp ?_
 unfold JM at h
 rw [hb] at h
 exact h
def noR:ai:=⟨0,0,0,[],0,[]⟩
def qu (L:List ai) (c:Int):ai×Bool:=if li ug L c then ((L[rV ug L c]?).getD noR,true) else (noR,false)
theorem M7 {r:au} (h:kP r) (c:Int):nz r c=some (qu r.Seen c):=by
 have hf:=h.few
 unfold nz qu
 rw [Gj h.inc (by omega),aR]
 dsimp only
 cases hh:li ug r.Seen c with
 |false=>rfl
 |true=>
  obtain ⟨hk,he⟩:=(h.inc.has c).1 hh
  rw [if_neg (by decide),cg hk,if_pos rfl,List.getElem?_eq_getElem hk];rfl
def Ar (o:av) (e:Int):ai:=⟨o.Client,o.Seq,e,[],0,[]⟩
noncomputable def jE (L:List ai) (o:av):ai×Bool:=
 if JM o=false then (Ar o 1,true) else
 if (qu L o.Client).2 then (if (qu L o.Client).1.Seq=o.Seq then ((qu L o.Client).1,true) else if o.Seq<(qu L o.Client).1.Seq then (Ar o 15,true) else (Ar o 0,false))
 else if 50≤L.length then (Ar o 9,true) else (Ar o 0,false)
theorem SM {r:au} (h:kP r) (o:av):ik r o=some (jE r.Seen o):=by
 unfold ik jE
 rw [M7 h,aR,SL,aR]
 cases hm:JM o with
 |false=>rfl
 |true=>
  rw [if_neg (show¬(!true)=true by decide),if_neg (show¬true=false by decide)]
  cases hl:(qu r.Seen o.Client).2 with
  |true=>
   rw [if_pos rfl,if_pos rfl,aR]
   by_cases h1:(qu r.Seen o.Client).1.Seq=o.Seq
   ·rw [decide_eq_true h1,if_pos h1];rfl
   ·rw [decide_eq_false h1,if_neg h1,if_neg (by decide),if_pos rfl,aR]
    by_cases h2:o.Seq<(qu r.Seen o.Client).1.Seq
    ·rw [decide_eq_true h2,if_pos h2];rfl
    ·rw [decide_eq_false h2,if_neg h2];rfl
  |false=>
   rw [if_neg (by decide),aR,if_neg (by decide),if_neg (by decide),aR,if_neg (by decide)]
   rw [if_pos (show (!false)=true from rfl),if_neg (by decide),aR]
   by_cases h3:50≤r.Seen.length
   ·rw [decide_eq_true (show (50:Int)≤(r.Seen.length:Int) by omega),if_pos h3];rfl
   ·rw [decide_eq_false (show¬(50:Int)≤(r.Seen.length:Int) by omega),if_neg h3];rfl
def Gm (L:List ai) (c:Int) (x:ai):List ai:=if li ug L c then L.set (rV ug L c) x else DN ug L x
noncomputable def ol (r:au) (o:av):af:=OZ ⟨r,o,(jE r.Seen o).1,[]⟩
noncomputable def jb (r:au) (o:av):au×ai×List bn:=
 if (jE r.Seen o).2 then (r,(jE r.Seen o).1,[])
 else (⟨(ol r o).r.Shelf,(ol r o).r.bM,⟨(jU (ol r o).r.bk.L (ol r o).l).1⟩,Gm r.Seen o.Client (ol r o).x⟩,(ol r o).x,(jU (ol r o).r.bk.L (ol r o).l).2)
structure D8 (w v:af):Prop extends dQ v.r where
 o:v.o=w.o
 eh:v.x.Client=w.x.Client
 seq:v.x.Seq=w.x.Seq
 seen:v.r.Seen=w.r.Seen
 len:v.l.length≤w.l.length+250
theorem O0 {L M:List ak} (h:DZ L) (hM:M.Sublist L):DZ M:=⟨Nat.le_trans hM.length_le h.len,fun x hx=>h.all x (hM.subset hx),List.Pairwise.sublist hM h.nodup⟩
theorem D9 {w v:af} {k:Int} (h:dQ v.r) (h1:v.o=w.o) (h2:v.x.Client=w.x.Client) (h3:v.x.Seq=w.x.Seq) (h4:v.r.Seen=w.r.Seen) (h5:v.l.length≤w.l.length+249):D8 w (uT k v):=by
 unfold uT
 split
 ·exact ⟨h,h1,h2,h3,h4,by dsimp only;simp only [List.length_append,List.length_cons,List.length_nil];omega⟩
 ·exact ⟨h,h1,h2,h3,h4,by omega⟩
theorem om {r:au} (h:dQ r) {L:List ae} (hL:ja L):dQ {r with Shelf:=⟨L⟩}:=⟨hL,h.book,h.table⟩
theorem nH {r:au} (h:dQ r) {b:aD} (hb:ku b):dQ {r with bM:=b}:=⟨h.shelf,hb,h.table⟩
theorem O1 {w v:af} (h:dQ v.r) (h1:v.o=w.o) (h2:v.x.Client=w.x.Client) (h3:v.x.Seq=w.x.Seq) (h4:v.r.Seen=w.r.Seen) (h5:v.l.length≤w.l.length) (id:Int):D8 w (vS v id):=by
 have hl:=Aq v.r.Shelf.L id
 have hs:=h.shelf.len
 refine ⟨om h (MU h.shelf id),h1,h2,h3,h4,?_⟩
 unfold vS
 dsimp only
 rw [List.length_append,List.length_map]
 omega
theorem Bd (ids:List Int): ∀{v:af},dQ v.r→dQ (kv v ids).r∧(kv v ids).o=v.o∧(kv v ids).x=v.x∧(kv v ids).r.Seen=v.r.Seen∧(kv v ids).r.bM=v.r.bM∧(kv v ids).r.bk=v.r.bk:=by
 unfold kv
 induction ids with
 |nil=>intro v h;exact ⟨h,rfl,rfl,rfl,rfl,rfl⟩
 |cons i ids ih=>
  intro v h
  obtain ⟨h1,h2,h3,h4,h5,h6⟩:=ih (v:=vS v i) (om h (MU h.shelf i))
  exact ⟨h1,h2,h3,h4,h5,h6⟩
theorem O2 {L:List ak} (h:DZ L) (w:ak):DZ (Ao L w).1:=by
 unfold Ao
 split
 ·exact h
 rename_i h1
 split
 ·exact h
 rename_i h2
 split
 ·exact h
 rename_i h3
 split
 ·exact h
 rename_i h4
 refine ⟨by dsimp only;simp only [List.length_append,List.length_cons,List.length_nil];omega,fun x hx=> ?_,?_⟩
 ·rcases List.mem_append.1 hx with hx|hx
  ·exact h.all x hx
  ·rw [List.mem_singleton.1 hx]
   exact ⟨by simpa using h1,by omega⟩
 ·dsimp only
  rw [List.nodup_append]
  refine ⟨h.nodup,by simp,fun x hx y hy JZ=> ?_⟩
  rw [List.mem_singleton.1 hy] at JZ
  exact h3 (JZ▸hx)
theorem Wz {w:af} (h:dQ w.r):D8 w (OZ w):=by
 have hs:=h.shelf.len
 unfold OZ
 split
 ·exact ⟨h,rfl,rfl,rfl,rfl,by omega⟩
 split
 ·unfold zr
  split
  ·exact ⟨h,rfl,rfl,rfl,rfl,by show w.l.length≤_;omega⟩
  ·exact D9 (om h (LA h.shelf _ _ _)) rfl rfl rfl rfl (by show w.l.length≤_;omega)
 split
 ·exact ⟨h,rfl,rfl,rfl,rfl,by show w.l.length≤_;omega⟩
 split
 ·unfold SD M6
  have hc:D8 w (uT 2 (nG w (zo w.r.Shelf.L w.o.Path w.o.Value w.o.Version))):=D9 (om h (MY h.shelf _ _ _)) rfl rfl rfl rfl (by show w.l.length≤_;omega)
  generalize uT 2 (nG w (zo w.r.Shelf.L w.o.Path w.o.Value w.o.Version))=v at hc
  split
  ·exact ⟨hc.todQ,hc.o,hc.eh,hc.seq,hc.seen,hc.len⟩
  ·exact hc
 split
 ·exact D9 (om h (Vj h.shelf _ _)) rfl rfl rfl rfl (by show w.l.length≤_;omega)
 split
 ·exact ⟨h,rfl,rfl,rfl,rfl,by show w.l.length≤_;omega⟩
 split
 ·exact ⟨nH h (Vn h.book _ _),rfl,rfl,rfl,rfl,by show w.l.length≤_;omega⟩
 split
 ·exact ⟨nH h (SA h.book _).1,rfl,rfl,rfl,rfl,by show w.l.length≤_;omega⟩
 split
 ·unfold D7
  split
  ·exact O1 (w:=w) (v:=D6 w (qt w.r.bM w.o.Session)) (nH h (JJ h.book w.o.Session)) rfl rfl rfl rfl (Nat.le_refl _) _
  ·exact ⟨nH h (JJ h.book _),rfl,rfl,rfl,rfl,by show w.l.length≤_;omega⟩
 split
 ·unfold JL
  split
  ·rename_i he
   have hd:=Gk (zq w.r.bM w.o.Span) (yf w)
   obtain ⟨h1,h2,h3,h4,h5,h6⟩:=Bd (zq w.r.bM w.o.Span) (v:=yf w) (nH h (M5 h.book he))
   have e1:(yf w).l.length=w.l.length:=rfl
   have e2:(yf w).r.Shelf.L.length=w.r.Shelf.L.length:=rfl
   exact ⟨h1,h2,by rw [h3];rfl,by rw [h3];rfl,h4,by omega⟩
  ·exact ⟨h,rfl,rfl,rfl,rfl,by show w.l.length≤_;omega⟩
 ·exact ⟨⟨h.shelf,h.book,O2 h.table _⟩,rfl,rfl,rfl,rfl,by show w.l.length≤_;omega⟩
theorem As {L:List ai} {o:av} (h:(jE L o).2=false):JM o=true∧(jE L o).1=Ar o 0∧((qu L o.Client).2=true→(qu L o.Client).1.Seq<o.Seq)∧((qu L o.Client).2=false→L.length<50):=by
 unfold jE at h⊢
 split at h
 ·cases h
 rename_i h1
 have hm:JM o=true:=by simpa using h1
 rw [if_neg h1]
 split at h
 ·rename_i h2
  rw [if_pos h2]
  split at h
  ·cases h
  rename_i h3
  split at h
  ·cases h
  rename_i h4
  rw [if_neg h3,if_neg h4]
  exact ⟨hm,rfl,fun _=>by omega,fun hh=>by rw [hh] at h2;cases h2⟩
 ·rename_i h2
  rw [if_neg h2]
  split at h
  ·cases h
  rename_i h3
  rw [if_neg h3]
  exact ⟨hm,rfl,fun hh=>absurd hh h2,fun _=>by omega⟩
theorem SN (L:List ai) (c:Int):(qu L c).2=li ug L c:=by
 unfold qu
 cases li ug L c<;>rfl
theorem At {r:au} (h:kP r) (o:av):kf r o=some (jb r o):=by
 have hf:=h.few
 unfold kf jb ol
 rw [SM h,aR]
 cases hk:(jE r.Seen o).2 with
 |true=>rfl
 |false=>
  rw [if_neg (by decide),if_neg (by decide)]
  obtain ⟨hm,Ic,BK,uU⟩:=As hk
  have hp:=HI hm
  have hs:=h.shelf.len
  have hd:=Wz (w:=⟨r,o,(jE r.Seen o).1,[]⟩) h.todQ
  refine (Vs (w:=⟨r,o,(jE r.Seen o).1,[]⟩) h.todQ (by dsimp only [List.length_nil];omega) hp.2.2.1 _).trans ?_
  have hxc:(OZ ⟨r,o,(jE r.Seen o).1,[]⟩).x.Client=o.Client:=by rw [hd.eh,Ic];rfl
  have ht:=hd.table.len
  have hlen:=hd.len
  generalize OZ ⟨r,o,(jE r.Seen o).1,[]⟩=w at hd ht hlen hxc
  dsimp only
  dsimp only [List.length_nil] at hlen
  rw [Vk w.r.bk w.l (by omega) (by omega),aR,wD (by omega),aR,Gj h.inc (by omega),aR]
  dsimp only
  unfold Gm
  cases hh:li ug r.Seen o.Client with
  |true=>
   obtain ⟨JY,he⟩:=(h.inc.has o.Client).1 hh
   rw [if_pos rfl,if_pos rfl,cg JY,aR,Int.toNat_natCast]
  |false=>
   have hi:=DO (key:=ug) (L:=r.Seen) (a:=w.x) (Yw:=72) (by omega)
   have hi:pc 72 r.Seen (rV ug r.Seen o.Client:Int) [w.x]=some (DN ug r.Seen w.x):=by
    rw [←hxc];exact hi
   rw [if_neg (by decide),if_neg (by decide),hi,aR,aR]
theorem Vt {r:au} (h:kP r) {c:Int} {x:ai} (hx:x.Client=c) (hc:0≤c∧c≤1000∧1≤x.Seq) (hl:li ug r.Seen c=false→r.Seen.length<50):
 sY ug (Gm r.Seen c x)∧(Gm r.Seen c x).length≤50∧ ∀y∈Gm r.Seen c x,0≤y.Client∧y.Client≤1000∧1≤y.Seq:=by
 unfold Gm
 subst hx
 cases hh:li ug r.Seen x.Client with
 |true=>
  obtain ⟨hk,he⟩:=(h.inc.has x.Client).1 hh
  rw [if_pos rfl]
  refine ⟨JH (JI hk he.symm) h.inc,by rw [List.length_set];exact h.few,fun y hy=> ?_⟩
  rcases List.mem_or_eq_of_mem_set hy with hy|rfl
  ·exact h.seen y hy
  ·exact hc
 |false=>
  rw [if_neg (by decide)]
  refine ⟨M2 h.inc hh,by rw [M4];have:=hl hh;omega,fun y hy=> ?_⟩
  rcases M3.1 hy with hy|rfl
  ·exact h.seen y hy
  ·exact hc
theorem zt {r:au} (h:kP r) (o:av):kP (jb r o).1:=by
 unfold jb
 cases hk:(jE r.Seen o).2 with
 |true=>exact h
 |false=>
  rw [if_neg (by decide)]
  obtain ⟨hm,Ic,BK,uU⟩:=As hk
  have hp:=HI hm
  have hd:D8 ⟨r,o,(jE r.Seen o).1,[]⟩ (ol r o):=Wz (w:=⟨r,o,(jE r.Seen o).1,[]⟩) h.todQ
  have hxc:(ol r o).x.Client=o.Client:=by rw [hd.eh,Ic];rfl
  have hxs:(ol r o).x.Seq=o.Seq:=by rw [hd.seq,Ic];rfl
  obtain ⟨s1,s2,s3⟩:=Vt h hxc ⟨hp.1.1,hp.1.2,by rw [hxs];exact hp.2.1.1⟩ (fun hh=>uU (by rw [SN];exact hh))
  refine ⟨⟨hd.shelf,hd.book,?_⟩,s1,s2,s3⟩
  dsimp only
  rw [MZ]
  exact O0 hd.table List.filter_sublist
end Dn.S
