import Derived.Test.YtbkodohojpchjaaGreatDoorDnPRealm2
/-
  Realms: an order, from a realm to a realm. Conditions: none.
-/
open Go Dn
set_option linter.unusedVariables false
set_option linter.unusedSimpArgs false
namespace Dn.S
structure kf (r:aq):Prop extends dY r where
 inc:tG uV r.Seen
 few:r.Seen.length≤50
 seen: ∀x∈r.Seen,0≤x.Client∧x.Client≤1000∧1≤x.Seq
theorem TT (o:aB): ∃u,jG o=some u:=by
 unfold jG
 repeat' (first|exact ⟨_,rfl⟩|(split<;>try simp only [aM]))
theorem TU (o:aB):bK (nR o) fun b=>b=true→(0≤o.Client∧o.Client≤1000)∧(1≤o.Seq∧o.Seq≤1000000000)∧(0≤o.Kind∧o.Kind≤11)∧o.Path.length≤100∧o.Value.length≤1000:=by
 unfold nR
 obtain ⟨u,hu⟩:=TT o
 rw [hu]
 by_cases h1:(0:Int)≤o.Client
 rotate_left
 ·rw [if_neg h1,aM,if_neg (by decide),aM];exact .mk (fun h=>by cases h)
 rw [if_pos h1]
 by_cases h2:o.Client≤1000
 rotate_left
 ·rw [if_neg h2,aM,if_neg (by decide),aM];exact .mk (fun h=>by cases h)
 rw [if_pos h2]
 by_cases h3:(1:Int)≤o.Seq
 rotate_left
 ·rw [if_neg h3,aM,if_neg (by decide),aM];exact .mk (fun h=>by cases h)
 rw [if_pos h3,aM]
 by_cases h4:o.Seq≤1000000000
 rotate_left
 ·rw [decide_eq_false h4,if_neg (by decide),aM];exact .mk (fun h=>by cases h)
 rw [decide_eq_true h4,if_pos rfl]
 by_cases h5:(0:Int)≤o.Kind
 rotate_left
 ·rw [if_neg h5,aM];exact .mk (fun h=>by cases h)
 rw [if_pos h5]
 by_cases h6:o.Kind≤11
 rotate_left
 ·rw [if_neg h6,aM];exact .mk (fun h=>by cases h)
 rw [if_pos h6]
 by_cases h7:(o.Path.length:Int)≤100
 rotate_left
 ·rw [if_neg h7,aM];exact .mk (fun h=>by cases h)
 rw [if_pos h7]
 by_cases h8:(o.Value.length:Int)≤1000
 rotate_left
 ·rw [if_neg h8,aM];exact .mk (fun h=>by cases h)
 rw [if_pos h8,aM,aM]
 exact .mk (fun _=>⟨⟨h1,h2⟩,⟨h3,h4⟩,⟨h5,h6⟩,by omega,by omega⟩)
noncomputable def KU (o:aB):Bool:=(nR o).getD false
theorem TV (o:aB):nR o=some (KU o):=by
 obtain ⟨b,hb,_⟩:=TU o
 unfold KU;rw [hb];rfl
theorem Of {o:aB} (h:KU o=true):(0≤o.Client∧o.Client≤1000)∧(1≤o.Seq∧o.Seq≤1000000000)∧(0≤o.Kind∧o.Kind≤11)∧o.Path.length≤100∧o.Value.length≤1000:=by
 obtain ⟨b,hb,hp⟩:=TU o
 refine hp ?_
 unfold KU at h
 rw [hb] at h
 exact h
def noR:ai:=⟨0,0,0,[],0,[]⟩
def q9 (L:List ai) (c:Int):ai×Bool:=if fY uV L c then ((L[pB uV L c]?).getD noR,true) else (noR,false)
theorem Og {r:aq} (h:kf r) (c:Int):nS r c=some (q9 r.Seen c):=by
 have hf:=h.few
 unfold nS q9
 rw [Hi h.inc (by omega),aM]
 dsimp only
 cases hh:fY uV r.Seen c with
 |false=>rfl
 |true=>
  obtain ⟨hk,he⟩:=(h.inc.has c).1 hh
  rw [if_neg (by decide),cg hk,if_pos rfl,List.getElem?_eq_getElem hk];rfl
def A8 (o:aB) (e:Int):ai:=⟨o.Client,o.Seq,e,[],0,[]⟩
noncomputable def kN (L:List ai) (o:aB):ai×Bool:=
 if KU o=false then (A8 o 1,true) else
 if (q9 L o.Client).2 then (if (q9 L o.Client).1.Seq=o.Seq then ((q9 L o.Client).1,true) else if o.Seq<(q9 L o.Client).1.Seq then (A8 o 15,true) else (A8 o 0,false))
 else if 50≤L.length then (A8 o 9,true) else (A8 o 0,false)
theorem TW {r:aq} (h:kf r) (o:aB):iN r o=some (kN r.Seen o):=by
 unfold iN kN
 rw [Og h,aM,TV,aM]
 cases hm:KU o with
 |false=>rfl
 |true=>
  rw [if_neg (show¬(!true)=true by decide),if_neg (show¬true=false by decide)]
  cases hl:(q9 r.Seen o.Client).2 with
  |true=>
   rw [if_pos rfl,if_pos rfl,aM]
   by_cases h1:(q9 r.Seen o.Client).1.Seq=o.Seq
   ·rw [decide_eq_true h1,if_pos h1];rfl
   ·rw [decide_eq_false h1,if_neg h1,if_neg (by decide),if_pos rfl,aM]
    by_cases h2:o.Seq<(q9 r.Seen o.Client).1.Seq
    ·rw [decide_eq_true h2,if_pos h2];rfl
    ·rw [decide_eq_false h2,if_neg h2];rfl
  |false=>
   rw [if_neg (by decide),aM,if_neg (by decide),if_neg (by decide),aM,if_neg (by decide)]
   rw [if_pos (show (!false)=true from rfl),if_neg (by decide),aM]
   by_cases h3:50≤r.Seen.length
   ·rw [decide_eq_true (show (50:Int)≤(r.Seen.length:Int) by omega),if_pos h3];rfl
   ·rw [decide_eq_false (show¬(50:Int)≤(r.Seen.length:Int) by omega),if_neg h3];rfl
def Hl (L:List ai) (c:Int) (x:ai):List ai:=if fY uV L c then L.set (pB uV L c) x else EI uV L x
noncomputable def vp (r:aq) (o:aB):af:=Ww ⟨r,o,(kN r.Seen o).1,[]⟩
noncomputable def nw (r:aq) (o:aB):aq×ai×List bA:=
 if (kN r.Seen o).2 then (r,(kN r.Seen o).1,[])
 else (⟨(vp r o).r.Shelf,(vp r o).r.bF,⟨(lT (vp r o).r.ck.L (vp r o).l).1⟩,Hl r.Seen o.Client (vp r o).x⟩,(vp r o).x,(lT (vp r o).r.ck.L (vp r o).l).2)
structure EZ (w v:af):Prop extends dY v.r where
 o:v.o=w.o
 ey:v.x.Client=w.x.Client
 seq:v.x.Seq=w.x.Seq
 seen:v.r.Seen=w.r.Seen
 len:v.l.length≤w.l.length+250
theorem Qe {L M:List ak} (h:yY L) (hM:M.Sublist L):yY M:=⟨Nat.le_trans hM.length_le h.len,fun x hx=>h.all x (hM.subset hx),List.Pairwise.sublist hM h.nodup⟩
theorem E0 {w v:af} {k:Int} (h:dY v.r) (h1:v.o=w.o) (h2:v.x.Client=w.x.Client) (h3:v.x.Seq=w.x.Seq) (h4:v.r.Seen=w.r.Seen) (h5:v.l.length≤w.l.length+249):EZ w (wV k v):=by
 unfold wV
 split
 ·exact ⟨h,h1,h2,h3,h4,by dsimp only;simp only [List.length_append,List.length_cons,List.length_nil];omega⟩
 ·exact ⟨h,h1,h2,h3,h4,by omega⟩
theorem o9 {r:aq} (h:dY r) {L:List ae} (hL:ik L):dY {r with Shelf:=⟨L⟩}:=⟨hL,h.book,h.table⟩
theorem n3 {r:aq} (h:dY r) {b:az} (hb:iY b):dY {r with bF:=b}:=⟨h.shelf,hb,h.table⟩
theorem Qf {w v:af} (h:dY v.r) (h1:v.o=w.o) (h2:v.x.Client=w.x.Client) (h3:v.x.Seq=w.x.Seq) (h4:v.r.Seen=w.r.Seen) (h5:v.l.length≤w.l.length) (id:Int):EZ w (vo v id):=by
 have hl:=A7 v.r.Shelf.L id
 have hs:=h.shelf.len
 refine ⟨o9 h (N6 h.shelf id),h1,h2,h3,h4,?_⟩
 unfold vo
 dsimp only
 rw [List.length_append,List.length_map]
 omega
theorem BR (ids:List Int): ∀{v:af},dY v.r→dY (jA v ids).r∧(jA v ids).o=v.o∧(jA v ids).x=v.x∧(jA v ids).r.Seen=v.r.Seen∧(jA v ids).r.bF=v.r.bF∧(jA v ids).r.ck=v.r.ck:=by
 unfold jA
 induction ids with
 |nil=>intro v h;exact ⟨h,rfl,rfl,rfl,rfl,rfl⟩
 |cons i ids ih=>
  intro v h
  obtain ⟨h1,h2,h3,h4,h5,h6⟩:=ih (v:=vo v i) (o9 h (N6 h.shelf i))
  exact ⟨h1,h2,h3,h4,h5,h6⟩
theorem Qg {L:List ak} (h:yY L) (w:ak):yY (IJ L w).1:=by
 unfold IJ
 split
 ·exact h
 rename_i h1
 split
 ·exact h
 rename_i h2
 split
 ·exact h
 rename_i h3
 split
 ·exact h
 rename_i h4
 refine ⟨by dsimp only;simp only [List.length_append,List.length_cons,List.length_nil];omega,fun x hx=> ?_,?_⟩
 ·rcases List.mem_append.1 hx with hx|hx
  ·exact h.all x hx
  ·rw [List.mem_singleton.1 hx]
   exact ⟨by simpa using h1,by omega⟩
 ·dsimp only
  rw [List.nodup_append]
  refine ⟨h.nodup,by simp,fun x hx y hy K9=> ?_⟩
  rw [List.mem_singleton.1 hy] at K9
  exact h3 (K9▸hx)
theorem XP {w:af} (h:dY w.r):EZ w (Ww w):=by
 have hs:=h.shelf.len
 unfold Ww
 split
 ·exact ⟨h,rfl,rfl,rfl,rfl,by omega⟩
 split
 ·unfold z8
  split
  ·exact ⟨h,rfl,rfl,rfl,rfl,by show w.l.length≤_;omega⟩
  ·exact E0 (o9 h (MJ h.shelf _ _ _)) rfl rfl rfl rfl (by show w.l.length≤_;omega)
 split
 ·exact ⟨h,rfl,rfl,rfl,rfl,by show w.l.length≤_;omega⟩
 split
 ·unfold TM Oe
  have hc:EZ w (wV 2 (n0 w (xP w.r.Shelf.L w.o.Path w.o.Value w.o.Version))):=E0 (o9 h (N9 h.shelf _ _ _)) rfl rfl rfl rfl (by show w.l.length≤_;omega)
  generalize wV 2 (n0 w (xP w.r.Shelf.L w.o.Path w.o.Value w.o.Version))=v at hc
  split
  ·exact ⟨hc.todY,hc.o,hc.ey,hc.seq,hc.seen,hc.len⟩
  ·exact hc
 split
 ·exact E0 (o9 h (Wm h.shelf _ _)) rfl rfl rfl rfl (by show w.l.length≤_;omega)
 split
 ·exact ⟨h,rfl,rfl,rfl,rfl,by show w.l.length≤_;omega⟩
 split
 ·exact ⟨n3 h (Ws h.book _ _),rfl,rfl,rfl,rfl,by show w.l.length≤_;omega⟩
 split
 ·exact ⟨n3 h (KQ h.book _).1,rfl,rfl,rfl,rfl,by show w.l.length≤_;omega⟩
 split
 ·unfold EY
  split
  ·exact Qf (w:=w) (v:=EX w (jV w.r.bF w.o.Session)) (n3 h (KR h.book w.o.Session)) rfl rfl rfl rfl (Nat.le_refl _) _
  ·exact ⟨n3 h (KR h.book _),rfl,rfl,rfl,rfl,by show w.l.length≤_;omega⟩
 split
 ·unfold KT
  split
  ·rename_i he
   have hd:=Hj (vn w.r.bF w.o.Span) (y4 w)
   obtain ⟨h1,h2,h3,h4,h5,h6⟩:=BR (vn w.r.bF w.o.Span) (v:=y4 w) (n3 h (Od h.book he))
   have e1:(y4 w).l.length=w.l.length:=rfl
   have e2:(y4 w).r.Shelf.L.length=w.r.Shelf.L.length:=rfl
   exact ⟨h1,h2,by rw [h3];rfl,by rw [h3];rfl,h4,by omega⟩
  ·exact ⟨h,rfl,rfl,rfl,rfl,by show w.l.length≤_;omega⟩
 ·exact ⟨⟨h.shelf,h.book,Qg h.table _⟩,rfl,rfl,rfl,rfl,by show w.l.length≤_;omega⟩
theorem Hm {L:List ai} {o:aB} (h:(kN L o).2=false):KU o=true∧(kN L o).1=A8 o 0∧((q9 L o.Client).2=true→(q9 L o.Client).1.Seq<o.Seq)∧((q9 L o.Client).2=false→L.length<50):=by
 unfold kN at h⊢
 split at h
 ·cases h
 rename_i h1
 have hm:KU o=true:=by simpa using h1
 rw [if_neg h1]
 split at h
 ·rename_i h2
  rw [if_pos h2]
  split at h
  ·cases h
  rename_i h3
  split at h
  ·cases h
  rename_i h4
  rw [if_neg h3,if_neg h4]
  exact ⟨hm,rfl,fun _=>by omega,fun hh=>by rw [hh] at h2;cases h2⟩
 ·rename_i h2
  rw [if_neg h2]
  split at h
  ·cases h
  rename_i h3
  rw [if_neg h3]
  exact ⟨hm,rfl,fun hh=>absurd hh h2,fun _=>by omega⟩
theorem TX (L:List ai) (c:Int):(q9 L c).2=fY uV L c:=by
 unfold q9
 cases fY uV L c<;>rfl
theorem A9 {r:aq} (h:kf r) (o:aB):kA r o=some (nw r o):=by
 have hf:=h.few
 unfold kA nw vp
 rw [TW h,aM]
 cases hk:(kN r.Seen o).2 with
 |true=>rfl
 |false=>
  rw [if_neg (by decide),if_neg (by decide)]
  obtain ⟨hm,K7,CR,vS⟩:=Hm hk
  have hp:=Of hm
  have hs:=h.shelf.len
  have hd:=XP (w:=⟨r,o,(kN r.Seen o).1,[]⟩) h.todY
  refine (Wx (w:=⟨r,o,(kN r.Seen o).1,[]⟩) h.todY (by dsimp only [List.length_nil];omega) hp.2.2.1 _).trans ?_
  have hxc:(Ww ⟨r,o,(kN r.Seen o).1,[]⟩).x.Client=o.Client:=by rw [hd.ey,K7];rfl
  have ht:=hd.table.len
  have hlen:=hd.len
  generalize Ww ⟨r,o,(kN r.Seen o).1,[]⟩=w at hd ht hlen hxc
  dsimp only
  dsimp only [List.length_nil] at hlen
  rw [Wo w.r.ck w.l (by omega) (by omega),aM,xr (by omega),aM,Hi h.inc (by omega),aM]
  dsimp only
  unfold Hl
  cases hh:fY uV r.Seen o.Client with
  |true=>
   obtain ⟨HK,he⟩:=(h.inc.has o.Client).1 hh
   rw [if_pos rfl,if_pos rfl,cg HK,aM,Int.toNat_natCast]
  |false=>
   have hi:=EJ (key:=uV) (L:=r.Seen) (a:=w.x) (ZC:=72) (by omega)
   have hi:pQ 72 r.Seen (pB uV r.Seen o.Client:Int) [w.x]=some (EI uV r.Seen w.x):=by
    rw [←hxc];exact hi
   rw [if_neg (by decide),if_neg (by decide),hi,aM,aM]
theorem Wy {r:aq} (h:kf r) {c:Int} {x:ai} (hx:x.Client=c) (hc:0≤c∧c≤1000∧1≤x.Seq) (hl:fY uV r.Seen c=false→r.Seen.length<50):
 tG uV (Hl r.Seen c x)∧(Hl r.Seen c x).length≤50∧ ∀y∈Hl r.Seen c x,0≤y.Client∧y.Client≤1000∧1≤y.Seq:=by
 unfold Hl
 subst hx
 cases hh:fY uV r.Seen x.Client with
 |true=>
  obtain ⟨hk,he⟩:=(h.inc.has x.Client).1 hh
  rw [if_pos rfl]
  refine ⟨KO (KP hk he.symm) h.inc,by rw [List.length_set];exact h.few,fun y hy=> ?_⟩
  rcases List.mem_or_eq_of_mem_set hy with hy|rfl
  ·exact h.seen y hy
  ·exact hc
 |false=>
  rw [if_neg (by decide)]
  refine ⟨Ob h.inc hh,by rw [Oc];have:=hl hh;omega,fun y hy=> ?_⟩
  rcases IK.1 hy with hy|rfl
  ·exact h.seen y hy
  ·exact hc
theorem Ab {r:aq} (h:kf r) (o:aB):kf (nw r o).1:=by
 unfold nw
 cases hk:(kN r.Seen o).2 with
 |true=>exact h
 |false=>
  rw [if_neg (by decide)]
  obtain ⟨hm,K7,CR,vS⟩:=Hm hk
  have hp:=Of hm
  have hd:EZ ⟨r,o,(kN r.Seen o).1,[]⟩ (vp r o):=XP (w:=⟨r,o,(kN r.Seen o).1,[]⟩) h.todY
  have hxc:(vp r o).x.Client=o.Client:=by rw [hd.ey,K7];rfl
  have hxs:(vp r o).x.Seq=o.Seq:=by rw [hd.seq,K7];rfl
  obtain ⟨s1,s2,s3⟩:=Wy h hxc ⟨hp.1.1,hp.1.2,by rw [hxs];exact hp.2.1.1⟩ (fun hh=>vS (by rw [TX];exact hh))
  refine ⟨⟨hd.shelf,hd.book,?_⟩,s1,s2,s3⟩
  dsimp only
  rw [Wp]
  exact Qe hd.table List.filter_sublist
end Dn.S
