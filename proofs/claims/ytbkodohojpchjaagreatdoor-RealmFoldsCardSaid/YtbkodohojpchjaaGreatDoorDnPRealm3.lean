import Derived.Test.YtbkodohojpchjaaGreatDoorDnPRealm2
/-
  Realms: an order, from a realm to a realm. Conditions: none.
-/
set_option linter.unusedVariables false
set_option linter.unusedSimpArgs false
open List renaming length_nil→c9,length_append→sh,mem_singleton→AI,length_cons→AS
open List.Pairwise renaming sublist→AT
open Go Dn
namespace Dn.S
noncomputable section
structure e8 (r:ap):Prop extends eH r where
 inc:rL iD r.Seen
 few:r.Seen.length<=50
 seen: ∀x∈r.Seen,0<=x.Client/\x.Client<=1000/\1<=x.Seq
theorem abS (o:ar): ∃u,bO o=some u:=by unfold bO;repeat' (first|exact ⟨_,rfl⟩|(split<;>try simp only [av]))
theorem abT (o:ar):aO (mG o) λb=>b=true->(0<=o.Client/\o.Client<=1000)/\(1<=o.Seq/\o.Seq<=1000000000)/\(0<=o.Kind/\o.Kind<=11)/\o.Path.length<=100/\o.Value.length<=1000:=by
 unfold mG;obtain ⟨u,hu⟩:=abS o;rw [hu];by_cases h1:(0:Int)<=o.Client;rotate_left
 ·rw [if_neg h1,av,if_neg (by decide),av];exact .mk (λh=>by cases h)
 rw [if_pos h1];by_cases h2:o.Client<=1000;rotate_left
 ·rw [if_neg h2,av,if_neg (by decide),av];exact .mk (λh=>by cases h)
 rw [if_pos h2];by_cases h3:(1:Int)<=o.Seq;rotate_left
 ·rw [if_neg h3,av,if_neg (by decide),av];exact .mk (λh=>by cases h)
 rw [if_pos h3,av];by_cases h4:o.Seq<=1000000000;rotate_left
 ·rw [decide_eq_false h4,if_neg (by decide),av];exact .mk (λh=>by cases h)
 rw [decide_eq_true h4,if_pos rfl];by_cases h5:(0:Int)<=o.Kind;rotate_left
 ·rw [if_neg h5,av];exact .mk (λh=>by cases h)
 rw [if_pos h5];by_cases h6:o.Kind<=11;rotate_left
 ·rw [if_neg h6,av];exact .mk (λh=>by cases h)
 rw [if_pos h6];by_cases h7:(o.Path.length:Int)<=100;rotate_left
 ·rw [if_neg h7,av];exact .mk (λh=>by cases h)
 rw [if_pos h7];by_cases h8:(o.Value.length:Int)<=1000;rotate_left
 ·rw [if_neg h8,av];exact .mk (λh=>by cases h)
 rw [if_pos h8,av,av];exact .mk (λ_=>⟨⟨h1,h2⟩,⟨h3,h4⟩,⟨h5,h6⟩,by omega,by omega⟩)
def FL (o:ar):Bool:=(mG o).getD false
theorem Rx (o:ar):mG o=some (FL o):=by obtain ⟨b,hb,_⟩:=abT o;unfold FL;rw [hb];rfl
theorem HL {o:ar}(h:FL o=true):(0<=o.Client/\o.Client<=1000)/\(1<=o.Seq/\o.Seq<=1000000000)/\(0<=o.Kind/\o.Kind<=11)/\o.Path.length<=100/\o.Value.length<=1000:=by obtain ⟨b,hb,hp⟩:=abT o;refine hp ?_;unfold FL at h;rw [hb] at h;exact h
def noR:ai:=⟨0,0,0,[],0,[]⟩
def fQ (L:List ai)(c:Int):ai×Bool:=if fP iD L c then ((L[nj iD L c]?).getD noR,true) else (noR,false)
theorem VI {r:ap}(h:e8 r)(c:Int):qk r c=some (fQ r.Seen c):=by
 have hf:=h.few;unfold qk fQ;rw [MM h.inc (by omega),av];dsimp only;cases hh:fP iD r.Seen c with
 |false=>rfl
 |true=>obtain ⟨hk,he⟩:=(h.inc.has c).1 hh;rw [if_neg (by decide),ba hk,if_pos rfl,List.getElem?_eq_getElem hk];rfl
def cY (o:ar)(e:Int):ai:=⟨o.Client,o.Seq,e,[],0,[]⟩
def fI (L:List ai)(o:ar):ai×Bool:=if FL o=false then (cY o 1,true) else
 if (fQ L o.Client).2 then (if (fQ L o.Client).1.Seq=o.Seq then ((fQ L o.Client).1,true) else if o.Seq<(fQ L o.Client).1.Seq then (cY o 15,true) else (cY o 0,false))
 else if 50<=L.length then (cY o 9,true) else (cY o 0,false)
theorem abU {r:ap}(h:e8 r)(o:ar):j5 r o=some (fI r.Seen o):=by
 unfold j5 fI;rw [VI h,av,Rx,av];cases hm:FL o with
 |false=>rfl
 |true=>
  rw [if_neg (show¬(!true)=true by decide),if_neg (show¬true=false by decide)];cases hl:(fQ r.Seen o.Client).2 with
  |true=>
   rw [if_pos rfl,if_pos rfl,av];by_cases h1:(fQ r.Seen o.Client).1.Seq=o.Seq
   ·rw [decide_eq_true h1,if_pos h1];rfl
   ·rw [decide_eq_false h1,if_neg h1,if_neg (by decide),if_pos rfl,av];by_cases h2:o.Seq<(fQ r.Seen o.Client).1.Seq
    ·rw [decide_eq_true h2,if_pos h2];rfl
    ·rw [decide_eq_false h2,if_neg h2];rfl
  |false=>
   rw [if_neg (by decide),av,if_neg (by decide),if_neg (by decide),av,if_neg (by decide)];rw [if_pos (show (!false)=true from rfl),if_neg (by decide),av];by_cases h3:50<=r.Seen.length
   ·rw [decide_eq_true (show (50:Int)<=(r.Seen.length:Int) by omega),if_pos h3];rfl
   ·rw [decide_eq_false (show¬(50:Int)<=(r.Seen.length:Int) by omega),if_neg h3];rfl
def zd (L:List ai)(c:Int)(x:ai):List ai:=if fP iD L c then L.set (nj iD L c) x else Ez iD L x
def gZ (r:ap)(o:ar):aj:=AP ⟨r,o,(fI r.Seen o).1,[]⟩
def dV (r:ap)(o:ar):ap×ai×List bk:=if (fI r.Seen o).2 then (r,(fI r.Seen o).1,[])
 else (⟨(gZ r o).r.Shelf,(gZ r o).r.aL,⟨(gY (gZ r o).r.aS.L (gZ r o).l).1⟩,zd r.Seen o.Client (gZ r o).x⟩,(gZ r o).x,(gY (gZ r o).r.aS.L (gZ r o).l).2)
structure CU (w v:aj):Prop extends eH v.r where
 o:v.o=w.o
 dK:v.x.Client=w.x.Client
 seq:v.x.Seq=w.x.Seq
 seen:v.r.Seen=w.r.Seen
 len:v.l.length<=w.l.length+250
theorem XI {L M:List aq}(h:Kn L)(hM:M.Sublist L):Kn M:=⟨Nat.le_trans hM.length_le h.len,λx hx=>h.all x (hM.subset hx),AT hM h.nodup⟩
theorem Kq {w v:aj}{k:Int}(h:eH v.r)(h1:v.o=w.o)(h2:v.x.Client=w.x.Client)(h3:v.x.Seq=w.x.Seq)(h4:v.r.Seen=w.r.Seen)(h5:v.l.length<=w.l.length+249):CU w (sd k v):=by
 unfold sd;split
 ·exact ⟨h,h1,h2,h3,h4,by dsimp only;simp only [sh,AS,c9];omega⟩
 ·exact ⟨h,h1,h2,h3,h4,by omega⟩
theorem rQ {r:ap}(h:eH r){L:List ah}(hL:ga L):eH {r with Shelf:=⟨L⟩}:=⟨hL,h.book,h.table⟩
theorem mz {r:ap}(h:eH r){b:aK}(hb:jN b):eH {r with aL:=b}:=⟨h.shelf,hb,h.table⟩
theorem XJ {w v:aj}(h:eH v.r)(h1:v.o=w.o)(h2:v.x.Client=w.x.Client)(h3:v.x.Seq=w.x.Seq)(h4:v.r.Seen=w.r.Seen)(h5:v.l.length<=w.l.length)(id:Int):CU w (mW v id):=by have hl:=BA v.r.Shelf.L id;have hs:=h.shelf.len;refine ⟨rQ h (VA h.shelf id),h1,h2,h3,h4,?_⟩;unfold mW;dsimp only;rw [sh,List.length_map];omega
theorem vz (ids:List Int): ∀{v:aj},eH v.r->eH (fD v ids).r/\(fD v ids).o=v.o/\(fD v ids).x=v.x/\(fD v ids).r.Seen=v.r.Seen/\(fD v ids).r.aL=v.r.aL/\(fD v ids).r.aS=v.r.aS:=by
 unfold fD;induction ids with
 |nil=>intro v h;exact ⟨h,rfl,rfl,rfl,rfl,rfl⟩
 |cons i ids ih=>intro v h;obtain ⟨h1,h2,h3,h4,h5,h6⟩:=ih (v:=mW v i) (rQ h (VA h.shelf i));exact ⟨h1,h2,h3,h4,h5,h6⟩
theorem XK {L:List aq}(h:Kn L)(w:aq):Kn (rO L w).1:=by
 unfold rO;split
 ·exact h
 rename_i h1;split
 ·exact h
 rename_i h2;split
 ·exact h
 rename_i h3;split
 ·exact h
 rename_i h4;refine ⟨by dsimp only;simp only [sh,AS,c9];omega,λx hx=> ?_,?_⟩
 ·rcases List.mem_append.1 hx with hx|hx
  ·exact h.all x hx
  ·rw [AI.1 hx];exact ⟨by simpa using h1,by omega⟩
 ·dsimp only;rw [List.nodup_append];refine ⟨h.nodup,by simp,λx hx y hy X2=> ?_⟩;rw [AI.1 hy] at X2;exact h3 (X2▸hx)
theorem VJ {w:aj}(h:eH w.r):CU w (AP w):=by
 have hs:=h.shelf.len;unfold AP;split
 ·exact ⟨h,rfl,rfl,rfl,rfl,by omega⟩
 split
 ·unfold yO;split
  ·exact ⟨h,rfl,rfl,rfl,rfl,by show w.l.length<=_;omega⟩
  ·exact Kq (rQ h (TT h.shelf _ _ _)) rfl rfl rfl rfl (by show w.l.length<=_;omega)
 split
 ·exact ⟨h,rfl,rfl,rfl,rfl,by show w.l.length<=_;omega⟩
 split
 ·unfold Rw MN;have hc:CU w (sd 2 (lu w (xm w.r.Shelf.L w.o.Path w.o.Value w.o.Version))):=Kq (rQ h (OM h.shelf _ _ _)) rfl rfl rfl rfl (by show w.l.length<=_;omega);generalize sd 2 (lu w (xm w.r.Shelf.L w.o.Path w.o.Value w.o.Version))=v at hc;split
  ·exact ⟨hc.toeH,hc.o,hc.dK,hc.seq,hc.seen,hc.len⟩
  ·exact hc
 split
 ·exact Kq (rQ h (ae4 h.shelf _ _)) rfl rfl rfl rfl (by show w.l.length<=_;omega)
 split
 ·exact ⟨h,rfl,rfl,rfl,rfl,by show w.l.length<=_;omega⟩
 split
 ·exact ⟨mz h (afa h.book _ _),rfl,rfl,rfl,rfl,by show w.l.length<=_;omega⟩
 split
 ·exact ⟨mz h (abL h.book _).1,rfl,rfl,rfl,rfl,by show w.l.length<=_;omega⟩
 split
 ·unfold AO;split
  ·exact XJ (w:=w) (v:=qa w (di w.r.aL w.o.Session)) (mz h (Ru h.book w.o.Session)) rfl rfl rfl rfl (Nat.le_refl _) _
  ·exact ⟨mz h (Ru h.book _),rfl,rfl,rfl,rfl,by show w.l.length<=_;omega⟩
 split
 ·unfold GF;split
  ·rename_i he;have hd:=FK (p0 w.r.aL w.o.Span) (uv w);obtain ⟨h1,h2,h3,h4,h5,h6⟩:=vz (p0 w.r.aL w.o.Span) (v:=uv w) (mz h (HK h.book he));have e1:(uv w).l.length=w.l.length:=rfl;have e2:(uv w).r.Shelf.L.length=w.r.Shelf.L.length:=rfl;exact ⟨h1,h2,by rw [h3];rfl,by rw [h3];rfl,h4,by omega⟩
  ·exact ⟨h,rfl,rfl,rfl,rfl,by show w.l.length<=_;omega⟩
 ·exact ⟨⟨h.shelf,h.book,XK h.table _⟩,rfl,rfl,rfl,rfl,by show w.l.length<=_;omega⟩
theorem BB {L:List ai}{o:ar}(h:(fI L o).2=false):FL o=true/\(fI L o).1=cY o 0/\((fQ L o.Client).2=true->(fQ L o.Client).1.Seq<o.Seq)/\((fQ L o.Client).2=false->L.length<50):=by
 unfold fI at h⊢;split at h
 ·cases h
 rename_i h1;have hm:FL o=true:=by simpa using h1
 rw [if_neg h1];split at h
 ·rename_i h2;rw [if_pos h2];split at h
  ·cases h
  rename_i h3;split at h
  ·cases h
  rename_i h4;rw [if_neg h3,if_neg h4];exact ⟨hm,rfl,λ_=>by omega,λhh=>by rw [hh] at h2;cases h2⟩
 ·rename_i h2;rw [if_neg h2];split at h
  ·cases h
  rename_i h3;rw [if_neg h3];exact ⟨hm,rfl,λhh=>absurd hh h2,λ_=>by omega⟩
theorem abV (L:List ai)(c:Int):(fQ L c).2=fP iD L c:=by unfold fQ;cases fP iD L c<;>rfl
theorem FM {r:ap}(h:e8 r)(o:ar):mg r o=some (dV r o):=by
 have hf:=h.few;unfold mg dV gZ;rw [abU h,av];cases hk:(fI r.Seen o).2 with
 |true=>rfl
 |false=>
  rw [if_neg (by decide),if_neg (by decide)];obtain ⟨hm,EW,A3,sE⟩:=BB hk;have hp:=HL hm;have hs:=h.shelf.len;have hd:=VJ (w:=⟨r,o,(fI r.Seen o).1,[]⟩) h.toeH;refine (aff (w:=⟨r,o,(fI r.Seen o).1,[]⟩) h.toeH (by dsimp only [c9];omega) hp.2.2.1 _).trans ?_;have hxc:(AP ⟨r,o,(fI r.Seen o).1,[]⟩).x.Client=o.Client:=by rw [hd.dK,EW];rfl
  have ht:=hd.table.len;have hlen:=hd.len;generalize AP ⟨r,o,(fI r.Seen o).1,[]⟩=w at hd ht hlen hxc;dsimp only;dsimp only [c9] at hlen;rw [ae6 w.r.aS w.l (by omega) (by omega),av,Bv (by omega),av,MM h.inc (by omega),av];dsimp only;unfold zd;cases hh:fP iD r.Seen o.Client with
  |true=>obtain ⟨EN,he⟩:=(h.inc.has o.Client).1 hh;rw [if_pos rfl,if_pos rfl,ba EN,av,Int.toNat_natCast]
  |false=>
   have hi:=Ke (key:=iD) (L:=r.Seen) (a:=w.x) (by':=72) (by omega);have hi:sJ 72 r.Seen (nj iD r.Seen o.Client:Int) [w.x]=some (Ez iD r.Seen w.x):=by rw [<-hxc];exact hi
   rw [if_neg (by decide),if_neg (by decide),hi,av,av]
theorem afg {r:ap}(h:e8 r){c:Int}{x:ai}(hx:x.Client=c)(hc:0<=c/\c<=1000/\1<=x.Seq)(hl:fP iD r.Seen c=false->r.Seen.length<50): rL iD (zd r.Seen c x)/\(zd r.Seen c x).length<=50/\ ∀y∈zd r.Seen c x,0<=y.Client/\y.Client<=1000/\1<=y.Seq:=by
 unfold zd;subst hx;cases hh:fP iD r.Seen x.Client with
 |true=>
  obtain ⟨hk,he⟩:=(h.inc.has x.Client).1 hh;rw [if_pos rfl];refine ⟨Rs (Rt hk he.symm) h.inc,by rw [List.length_set];exact h.few,λy hy=> ?_⟩;rcases List.mem_or_eq_of_mem_set hy with hy|rfl
  ·exact h.seen y hy
  ·exact hc
 |false=>
  rw [if_neg (by decide)];refine ⟨VF h.inc hh,by rw [VG];have:=hl hh;omega,λy hy=> ?_⟩;rcases OQ.1 hy with hy|rfl
  ·exact h.seen y hy
  ·exact hc
theorem Kr {r:ap}(h:e8 r)(o:ar):e8 (dV r o).1:=by
 unfold dV;cases hk:(fI r.Seen o).2 with
 |true=>exact h
 |false=>
  rw [if_neg (by decide)];obtain ⟨hm,EW,A3,sE⟩:=BB hk;have hp:=HL hm;have hd:CU ⟨r,o,(fI r.Seen o).1,[]⟩ (gZ r o):=VJ (w:=⟨r,o,(fI r.Seen o).1,[]⟩) h.toeH;have hxc:(gZ r o).x.Client=o.Client:=by rw [hd.dK,EW];rfl
  have hxs:(gZ r o).x.Seq=o.Seq:=by rw [hd.seq,EW];rfl
  obtain ⟨s1,s2,s3⟩:=afg h hxc ⟨hp.1.1,hp.1.2,by rw [hxs];exact hp.2.1.1⟩ (λhh=>sE (by rw [abV];exact hh));refine ⟨⟨hd.shelf,hd.book,?_⟩,s1,s2,s3⟩;dsimp only;rw [VD];exact XI hd.table List.filter_sublist
end
end Dn.S
