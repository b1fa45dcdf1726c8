import Derived.Test.YtbkodohojpchjaaGreatDoorDnPRealm2
/-
  Realms: an order, from a realm to a realm. Conditions: none.
-/
set_option linter.unusedVariables false
set_option linter.unusedSimpArgs false
open List renaming length_nil→c8,length_append→sh,mem_singleton→AI,length_cons→AS
open List.Pairwise renaming sublist→AT
open Go Dn
namespace Dn.S
noncomputable section
structure iG (r:au):Prop extends eF r where
 inc:pQ iC r.Seen
 few:r.Seen.length<=50
 seen: ∀x∈r.Seen,0<=x.Client/\x.Client<=1000/\1<=x.Seq
theorem ace (o:aB): ∃u,bP o=some u:=by unfold bP;repeat' (first|exact ⟨_,rfl⟩|(split<;>try simp only [al]))
theorem acf (o:aB):aM (mJ o) λb=>b=true->(0<=o.Client/\o.Client<=1000)/\(1<=o.Seq/\o.Seq<=1000000000)/\(0<=o.Kind/\o.Kind<=11)/\o.Path.length<=100/\o.Value.length<=1000:=by
 unfold mJ;obtain ⟨u,hu⟩:=ace o;rw [hu];by_cases h1:(0:Int)<=o.Client;rotate_left
 ·rw [if_neg h1,al,if_neg (by decide),al];exact .mk (λh=>by cases h)
 rw [if_pos h1];by_cases h2:o.Client<=1000;rotate_left
 ·rw [if_neg h2,al,if_neg (by decide),al];exact .mk (λh=>by cases h)
 rw [if_pos h2];by_cases h3:(1:Int)<=o.Seq;rotate_left
 ·rw [if_neg h3,al,if_neg (by decide),al];exact .mk (λh=>by cases h)
 rw [if_pos h3,al];by_cases h4:o.Seq<=1000000000;rotate_left
 ·rw [decide_eq_false h4,if_neg (by decide),al];exact .mk (λh=>by cases h)
 rw [decide_eq_true h4,if_pos rfl];by_cases h5:(0:Int)<=o.Kind;rotate_left
 ·rw [if_neg h5,al];exact .mk (λh=>by cases h)
 rw [if_pos h5];by_cases h6:o.Kind<=11;rotate_left
 ·rw [if_neg h6,al];exact .mk (λh=>by cases h)
 rw [if_pos h6];by_cases h7:(o.Path.length:Int)<=100;rotate_left
 ·rw [if_neg h7,al];exact .mk (λh=>by cases h)
 rw [if_pos h7];by_cases h8:(o.Value.length:Int)<=1000;rotate_left
 ·rw [if_neg h8,al];exact .mk (λh=>by cases h)
 rw [if_pos h8,al,al];exact .mk (λ_=>⟨⟨h1,h2⟩,⟨h3,h4⟩,⟨h5,h6⟩,by omega,by omega⟩)
def FR (o:aB):Bool:=(mJ o).getD false
theorem RG (o:aB):mJ o=some (FR o):=by obtain ⟨b,hb,_⟩:=acf o;unfold FR;rw [hb];rfl
theorem HG {o:aB}(h:FR o=true):(0<=o.Client/\o.Client<=1000)/\(1<=o.Seq/\o.Seq<=1000000000)/\(0<=o.Kind/\o.Kind<=11)/\o.Path.length<=100/\o.Value.length<=1000:=by obtain ⟨b,hb,hp⟩:=acf o;refine hp ?_;unfold FR at h;rw [hb] at h;exact h
def noR:aj:=⟨0,0,0,[],0,[]⟩
def fS (L:List aj)(c:Int):aj×Bool:=if fR iC L c then ((L[nq iC L c]?).getD noR,true) else (noR,false)
theorem VZ {r:au}(h:iG r)(c:Int):qk r c=some (fS r.Seen c):=by
 have hf:=h.few;unfold qk fS;rw [M0 h.inc (by omega),al];dsimp only;cases hh:fR iC r.Seen c with
 |false=>rfl
 |true=>obtain ⟨hk,he⟩:=(h.inc.has c).1 hh;rw [if_neg (by decide),aP hk,if_pos rfl,List.getElem?_eq_getElem hk];rfl
def cX (o:aB)(e:Int):aj:=⟨o.Client,o.Seq,e,[],0,[]⟩
def fJ (L:List aj)(o:aB):aj×Bool:=if FR o=false then (cX o 1,true) else
 if (fS L o.Client).2 then (if (fS L o.Client).1.Seq=o.Seq then ((fS L o.Client).1,true) else if o.Seq<(fS L o.Client).1.Seq then (cX o 15,true) else (cX o 0,false))
 else if 50<=L.length then (cX o 9,true) else (cX o 0,false)
theorem acg {r:au}(h:iG r)(o:aB):j5 r o=some (fJ r.Seen o):=by
 unfold j5 fJ;rw [VZ h,al,RG,al];cases hm:FR o with
 |false=>rfl
 |true=>
  rw [if_neg (show¬(!true)=true by decide),if_neg (show¬true=false by decide)];cases hl:(fS r.Seen o.Client).2 with
  |true=>
   rw [if_pos rfl,if_pos rfl,al];by_cases h1:(fS r.Seen o.Client).1.Seq=o.Seq
   ·rw [decide_eq_true h1,if_pos h1];rfl
   ·rw [decide_eq_false h1,if_neg h1,if_neg (by decide),if_pos rfl,al];by_cases h2:o.Seq<(fS r.Seen o.Client).1.Seq
    ·rw [decide_eq_true h2,if_pos h2];rfl
    ·rw [decide_eq_false h2,if_neg h2];rfl
  |false=>
   rw [if_neg (by decide),al,if_neg (by decide),if_neg (by decide),al,if_neg (by decide)];rw [if_pos (show (!false)=true from rfl),if_neg (by decide),al];by_cases h3:50<=r.Seen.length
   ·rw [decide_eq_true (show (50:Int)<=(r.Seen.length:Int) by omega),if_pos h3];rfl
   ·rw [decide_eq_false (show¬(50:Int)<=(r.Seen.length:Int) by omega),if_neg h3];rfl
def zt (L:List aj)(c:Int)(x:aj):List aj:=if fR iC L c then L.set (nq iC L c) x else EJ iC L x
def gZ (r:au)(o:aB):ai:=A9 ⟨r,o,(fJ r.Seen o).1,[]⟩
def iH (r:au)(o:aB):au×aj×List bI:=if (fJ r.Seen o).2 then (r,(fJ r.Seen o).1,[])
 else (⟨(gZ r o).r.Shelf,(gZ r o).r.aN,⟨(gY (gZ r o).r.aR.L (gZ r o).l).1⟩,zt r.Seen o.Client (gZ r o).x⟩,(gZ r o).x,(gY (gZ r o).r.aR.L (gZ r o).l).2)
structure Dc (w v:ai):Prop extends eF v.r where
 o:v.o=w.o
 dI:v.x.Client=w.x.Client
 seq:v.x.Seq=w.x.Seq
 seen:v.r.Seen=w.r.Seen
 len:v.l.length<=w.l.length+250
theorem X1 {L M:List aq}(h:FP L)(hM:M.Sublist L):FP M:=⟨Nat.le_trans hM.length_le h.len,λx hx=>h.all x (hM.subset hx),AT hM h.nodup⟩
theorem Kn {w v:ai}{k:Int}(h:eF v.r)(h1:v.o=w.o)(h2:v.x.Client=w.x.Client)(h3:v.x.Seq=w.x.Seq)(h4:v.r.Seen=w.r.Seen)(h5:v.l.length<=w.l.length+249):Dc w (r6 k v):=by
 unfold r6;split
 ·exact ⟨h,h1,h2,h3,h4,by dsimp only;simp only [sh,AS,c8];omega⟩
 ·exact ⟨h,h1,h2,h3,h4,by omega⟩
theorem rL {r:au}(h:eF r){L:List af}(hL:fN L):eF {r with Shelf:=⟨L⟩}:=⟨hL,h.book,h.table⟩
theorem mE {r:au}(h:eF r){b:aK}(hb:iD b):eF {r with aN:=b}:=⟨h.shelf,hb,h.table⟩
theorem X2 {w v:ai}(h:eF v.r)(h1:v.o=w.o)(h2:v.x.Client=w.x.Client)(h3:v.x.Seq=w.x.Seq)(h4:v.r.Seen=w.r.Seen)(h5:v.l.length<=w.l.length)(id:Int):Dc w (mZ v id):=by have hl:=BS v.r.Shelf.L id;have hs:=h.shelf.len;refine ⟨rL h (VP h.shelf id),h1,h2,h3,h4,?_⟩;unfold mZ;dsimp only;rw [sh,List.length_map];omega
theorem vB (ids:List Int): ∀{v:ai},eF v.r->eF (fE v ids).r/\(fE v ids).o=v.o/\(fE v ids).x=v.x/\(fE v ids).r.Seen=v.r.Seen/\(fE v ids).r.aN=v.r.aN/\(fE v ids).r.aR=v.r.aR:=by
 unfold fE;induction ids with
 |nil=>intro v h;exact ⟨h,rfl,rfl,rfl,rfl,rfl⟩
 |cons i ids ih=>intro v h;obtain ⟨h1,h2,h3,h4,h5,h6⟩:=ih (v:=mZ v i) (rL h (VP h.shelf i));exact ⟨h1,h2,h3,h4,h5,h6⟩
theorem X3 {L:List aq}(h:FP L)(w:aq):FP (rJ L w).1:=by
 unfold rJ;split
 ·exact h
 rename_i h1;split
 ·exact h
 rename_i h2;split
 ·exact h
 rename_i h3;split
 ·exact h
 rename_i h4;refine ⟨by dsimp only;simp only [sh,AS,c8];omega,λx hx=> ?_,?_⟩
 ·rcases List.mem_append.1 hx with hx|hx
  ·exact h.all x hx
  ·rw [AI.1 hx];exact ⟨by simpa using h1,by omega⟩
 ·dsimp only;rw [List.nodup_append];refine ⟨h.nodup,by simp,λx hx y hy Yj=> ?_⟩;rw [AI.1 hy] at Yj;exact h3 (Yj▸hx)
theorem V0 {w:ai}(h:eF w.r):Dc w (A9 w):=by
 have hs:=h.shelf.len;unfold A9;split
 ·exact ⟨h,rfl,rfl,rfl,rfl,by omega⟩
 split
 ·unfold y9;split
  ·exact ⟨h,rfl,rfl,rfl,rfl,by show w.l.length<=_;omega⟩
  ·exact Kn (rL h (Ud h.shelf _ _ _)) rfl rfl rfl rfl (by show w.l.length<=_;omega)
 split
 ·exact ⟨h,rfl,rfl,rfl,rfl,by show w.l.length<=_;omega⟩
 split
 ·unfold RF M1;have hc:Dc w (r6 2 (lp w (xx w.r.Shelf.L w.o.Path w.o.Value w.o.Version))):=Kn (rL h (OP h.shelf _ _ _)) rfl rfl rfl rfl (by show w.l.length<=_;omega);generalize r6 2 (lp w (xx w.r.Shelf.L w.o.Path w.o.Value w.o.Version))=v at hc;split
  ·exact ⟨hc.toeF,hc.o,hc.dI,hc.seq,hc.seen,hc.len⟩
  ·exact hc
 split
 ·exact Kn (rL h (aff h.shelf _ _)) rfl rfl rfl rfl (by show w.l.length<=_;omega)
 split
 ·exact ⟨h,rfl,rfl,rfl,rfl,by show w.l.length<=_;omega⟩
 split
 ·exact ⟨mE h (afk h.book _ _),rfl,rfl,rfl,rfl,by show w.l.length<=_;omega⟩
 split
 ·exact ⟨mE h (ab6 h.book _).1,rfl,rfl,rfl,rfl,by show w.l.length<=_;omega⟩
 split
 ·unfold A8;split
  ·exact X2 (w:=w) (v:=p0 w (di w.r.aN w.o.Session)) (mE h (RD h.book w.o.Session)) rfl rfl rfl rfl (Nat.le_refl _) _
  ·exact ⟨mE h (RD h.book _),rfl,rfl,rfl,rfl,by show w.l.length<=_;omega⟩
 split
 ·unfold GG;split
  ·rename_i he;have hd:=FQ (pZ w.r.aN w.o.Span) (ux w);obtain ⟨h1,h2,h3,h4,h5,h6⟩:=vB (pZ w.r.aN w.o.Span) (v:=ux w) (mE h (HF h.book he));have e1:(ux w).l.length=w.l.length:=rfl;have e2:(ux w).r.Shelf.L.length=w.r.Shelf.L.length:=rfl;exact ⟨h1,h2,by rw [h3];rfl,by rw [h3];rfl,h4,by omega⟩
  ·exact ⟨h,rfl,rfl,rfl,rfl,by show w.l.length<=_;omega⟩
 ·exact ⟨⟨h.shelf,h.book,X3 h.table _⟩,rfl,rfl,rfl,rfl,by show w.l.length<=_;omega⟩
theorem BT {L:List aj}{o:aB}(h:(fJ L o).2=false):FR o=true/\(fJ L o).1=cX o 0/\((fS L o.Client).2=true->(fS L o.Client).1.Seq<o.Seq)/\((fS L o.Client).2=false->L.length<50):=by
 unfold fJ at h⊢;split at h
 ·cases h
 rename_i h1;have hm:FR o=true:=by simpa using h1
 rw [if_neg h1];split at h
 ·rename_i h2;rw [if_pos h2];split at h
  ·cases h
  rename_i h3;split at h
  ·cases h
  rename_i h4;rw [if_neg h3,if_neg h4];exact ⟨hm,rfl,λ_=>by omega,λhh=>by rw [hh] at h2;cases h2⟩
 ·rename_i h2;rw [if_neg h2];split at h
  ·cases h
  rename_i h3;rw [if_neg h3];exact ⟨hm,rfl,λhh=>absurd hh h2,λ_=>by omega⟩
theorem ach (L:List aj)(c:Int):(fS L c).2=fR iC L c:=by unfold fS;cases fR iC L c<;>rfl
theorem FU {r:au}(h:iG r)(o:aB):mi r o=some (iH r o):=by
 have hf:=h.few;unfold mi iH gZ;rw [acg h,al];cases hk:(fJ r.Seen o).2 with
 |true=>rfl
 |false=>
  rw [if_neg (by decide),if_neg (by decide)];obtain ⟨hm,E5,Bh,sr⟩:=BT hk;have hp:=HG hm;have hs:=h.shelf.len;have hd:=V0 (w:=⟨r,o,(fJ r.Seen o).1,[]⟩) h.toeF;refine (afp (w:=⟨r,o,(fJ r.Seen o).1,[]⟩) h.toeF (by dsimp only [c8];omega) hp.2.2.1 _).trans ?_;have hxc:(A9 ⟨r,o,(fJ r.Seen o).1,[]⟩).x.Client=o.Client:=by rw [hd.dI,E5];rfl
  have ht:=hd.table.len;have hlen:=hd.len;generalize A9 ⟨r,o,(fJ r.Seen o).1,[]⟩=w at hd ht hlen hxc;dsimp only;dsimp only [c8] at hlen;rw [afh w.r.aR w.l (by omega) (by omega),al,BN (by omega),al,M0 h.inc (by omega),al];dsimp only;unfold zt;cases hh:fR iC r.Seen o.Client with
  |true=>obtain ⟨CM,he⟩:=(h.inc.has o.Client).1 hh;rw [if_pos rfl,if_pos rfl,aP CM,al,Int.toNat_natCast]
  |false=>
   have hi:=J9 (key:=iC) (L:=r.Seen) (a:=w.x) (by':=72) (by omega);have hi:sC 72 r.Seen (nq iC r.Seen o.Client:Int) [w.x]=some (EJ iC r.Seen w.x):=by rw [<-hxc];exact hi
   rw [if_neg (by decide),if_neg (by decide),hi,al,al]
theorem afr {r:au}(h:iG r){c:Int}{x:aj}(hx:x.Client=c)(hc:0<=c/\c<=1000/\1<=x.Seq)(hl:fR iC r.Seen c=false->r.Seen.length<50): pQ iC (zt r.Seen c x)/\(zt r.Seen c x).length<=50/\ ∀y∈zt r.Seen c x,0<=y.Client/\y.Client<=1000/\1<=y.Seq:=by
 unfold zt;subst hx;cases hh:fR iC r.Seen x.Client with
 |true=>
  obtain ⟨hk,he⟩:=(h.inc.has x.Client).1 hh;rw [if_pos rfl];refine ⟨RB (RC hk he.symm) h.inc,by rw [List.length_set];exact h.few,λy hy=> ?_⟩;rcases List.mem_or_eq_of_mem_set hy with hy|rfl
  ·exact h.seen y hy
  ·exact hc
 |false=>
  rw [if_neg (by decide)];refine ⟨VW h.inc hh,by rw [VX];have:=hl hh;omega,λy hy=> ?_⟩;rcases OT.1 hy with hy|rfl
  ·exact h.seen y hy
  ·exact hc
theorem RH {r:au}(h:iG r)(o:aB):iG (iH r o).1:=by
 unfold iH;cases hk:(fJ r.Seen o).2 with
 |true=>exact h
 |false=>
  rw [if_neg (by decide)];obtain ⟨hm,E5,Bh,sr⟩:=BT hk;have hp:=HG hm;have hd:Dc ⟨r,o,(fJ r.Seen o).1,[]⟩ (gZ r o):=V0 (w:=⟨r,o,(fJ r.Seen o).1,[]⟩) h.toeF;have hxc:(gZ r o).x.Client=o.Client:=by rw [hd.dI,E5];rfl
  have hxs:(gZ r o).x.Seq=o.Seq:=by rw [hd.seq,E5];rfl
  obtain ⟨s1,s2,s3⟩:=afr h hxc ⟨hp.1.1,hp.1.2,by rw [hxs];exact hp.2.1.1⟩ (λhh=>sr (by rw [ach];exact hh));refine ⟨⟨hd.shelf,hd.book,?_⟩,s1,s2,s3⟩;dsimp only;rw [VU];exact X1 hd.table List.filter_sublist
end
end Dn.S
