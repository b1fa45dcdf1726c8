import Derived.Test.YtbkodohojpchjaaGreatDoorDnPRealm2
/- Realms: an order, from a realm to a realm. Conditions: none. -/
set_option linter.unusedVariables false
set_option linter.unusedSimpArgs false
open List renaming length_nil→bN,length_append→sh,mem_singleton→AI,length_cons→AS
open List.Pairwise renaming sublist→AT
open Go Dn
namespace Dn.S
noncomputable section
structure dQ (r:al):Prop extends eA r where
 inc:rF kh r.Seen
 few:r.Seen.length<=50
 seen: ∀x∈r.Seen,0<=x.Client/\x.Client<=1000/\1<=x.Seq
theorem abo (o:aa): ∃u,gj o=some u:=by unfold gj;repeat' (first|exact ⟨_,rfl⟩|(split<;>try simp only [az]))
theorem abp (o:aa):bG (dC o) λb=>b=true->(0<=o.Client/\o.Client<=1000)/\(1<=o.Seq/\o.Seq<=1000000000)/\(0<=o.Kind/\o.Kind<=11)/\o.Path.length<=100/\o.Value.length<=1000:=by
 unfold dC;obtain ⟨u,hu⟩:=abo o;rw [hu];by_cases h1:(0:Int)<=o.Client;rotate_left
 ·rw [if_neg h1,az,if_neg (by decide),az];exact .mk (λh=>by cases h)
 rw [if_pos h1];by_cases h2:o.Client<=1000;rotate_left
 ·rw [if_neg h2,az,if_neg (by decide),az];exact .mk (λh=>by cases h)
 rw [if_pos h2];by_cases h3:(1:Int)<=o.Seq;rotate_left
 ·rw [if_neg h3,az,if_neg (by decide),az];exact .mk (λh=>by cases h)
 rw [if_pos h3,az];by_cases h4:o.Seq<=1000000000;rotate_left
 ·rw [decide_eq_false h4,if_neg (by decide),az];exact .mk (λh=>by cases h)
 rw [decide_eq_true h4,if_pos rfl];by_cases h5:(0:Int)<=o.Kind;rotate_left
 ·rw [if_neg h5,az];exact .mk (λh=>by cases h)
 rw [if_pos h5];by_cases h6:o.Kind<=11;rotate_left
 ·rw [if_neg h6,az];exact .mk (λh=>by cases h)
 rw [if_pos h6];by_cases h7:(o.Path.length:Int)<=100;rotate_left
 ·rw [if_neg h7,az];exact .mk (λh=>by cases h)
 rw [if_pos h7];by_cases h8:(o.Value.length:Int)<=1000;rotate_left
 ·rw [if_neg h8,az];exact .mk (λh=>by cases h)
 rw [if_pos h8,az,az];exact .mk (λ_=>⟨⟨h1,h2⟩,⟨h3,h4⟩,⟨h5,h6⟩,by omega,by omega⟩)
def Cx (o:aa):Bool:=(dC o).getD false
theorem wY (o:aa):dC o=some (Cx o):=by obtain ⟨b,hb,_⟩:=abp o;unfold Cx;rw [hb];rfl
theorem OA {o:aa}(h:Cx o=true):(0<=o.Client/\o.Client<=1000)/\(1<=o.Seq/\o.Seq<=1000000000)/\(0<=o.Kind/\o.Kind<=11)/\o.Path.length<=100/\o.Value.length<=1000:=by obtain ⟨b,hb,hp⟩:=abp o;refine hp ?_;unfold Cx at h;rw [hb] at h;exact h
def noR:ae:=⟨0,0,0,[],0,[]⟩
def fe (L:List ae)(c:Int):ae×Bool:=if kY kh L c then ((L[qF kh L c]?).getD noR,true) else (noR,false)
theorem OB {r:al}(h:dQ r)(c:Int):nX r c=some (fe r.Seen c):=by
 have hf:=h.few;unfold nX fe;rw [MN h.inc (by omega),az];dsimp only;cases hh:kY kh r.Seen c with
 |false=>rfl
 |true=>obtain ⟨hk,he⟩:=(h.inc.has c).1 hh;rw [if_neg (by decide),b7 hk,if_pos rfl,List.getElem?_eq_getElem hk];rfl
def Cy (o:aa)(e:Int):ae:=⟨o.Client,o.Seq,e,[],0,[]⟩
def dp (L:List ae)(o:aa):ae×Bool:=if Cx o=false then (Cy o 1,true) else
 if (fe L o.Client).2 then (if (fe L o.Client).1.Seq=o.Seq then ((fe L o.Client).1,true) else if o.Seq<(fe L o.Client).1.Seq then (Cy o 15,true) else (Cy o 0,false))
 else if 50<=L.length then (Cy o 9,true) else (Cy o 0,false)
theorem abq {r:al}(h:dQ r)(o:aa):jZ r o=some (dp r.Seen o):=by
 unfold jZ dp;rw [OB h,az,wY,az];cases hm:Cx o with
 |false=>rfl
 |true=>
  rw [if_neg (show¬(!true)=true by decide),if_neg (show¬true=false by decide)];cases hl:(fe r.Seen o.Client).2 with
  |true=>
   rw [if_pos rfl,if_pos rfl,az];by_cases h1:(fe r.Seen o.Client).1.Seq=o.Seq
   ·rw [decide_eq_true h1,if_pos h1];rfl
   ·rw [decide_eq_false h1,if_neg h1,if_neg (by decide),if_pos rfl,az];by_cases h2:o.Seq<(fe r.Seen o.Client).1.Seq
    ·rw [decide_eq_true h2,if_pos h2];rfl
    ·rw [decide_eq_false h2,if_neg h2];rfl
  |false=>
   rw [if_neg (by decide),az,if_neg (by decide),if_neg (by decide),az,if_neg (by decide)];rw [if_pos (show (!false)=true from rfl),if_neg (by decide),az];by_cases h3:50<=r.Seen.length
   ·rw [decide_eq_true (show (50:Int)<=(r.Seen.length:Int) by omega),if_pos h3];rfl
   ·rw [decide_eq_false (show¬(50:Int)<=(r.Seen.length:Int) by omega),if_neg h3];rfl
def yQ (L:List ae)(c:Int)(x:ae):List ae:=if kY kh L c then L.set (qF kh L c) x else GC kh L x
def jA (r:al)(o:aa):ah:=S5 ⟨r,o,(dp r.Seen o).1,[]⟩
def cK (r:al)(o:aa):al×ae×List a7:=if (dp r.Seen o).2 then (r,(dp r.Seen o).1,[])
 else (⟨(jA r o).r.Shelf,(jA r o).r.ca,⟨(lL (jA r o).r.bJ.L (jA r o).l).1⟩,yQ r.Seen o.Client (jA r o).x⟩,(jA r o).x,(lL (jA r o).r.bJ.L (jA r o).l).2)
structure Az (w v:ah):Prop extends eA v.r where
 o:v.o=w.o
 eF:v.x.Client=w.x.Client
 seq:v.x.Seq=w.x.Seq
 seen:v.r.Seen=w.r.Seen
 len:v.l.length<=w.l.length+250
theorem Xa {L M:List ar}(h:JX L)(hM:M.Sublist L):JX M:=⟨Nat.le_trans hM.length_le h.len,λx hx=>h.all x (hM.subset hx),AT hM h.nodup⟩
theorem J0 {w v:ah}{k:Int}(h:eA v.r)(h1:v.o=w.o)(h2:v.x.Client=w.x.Client)(h3:v.x.Seq=w.x.Seq)(h4:v.r.Seen=w.r.Seen)(h5:v.l.length<=w.l.length+249):Az w (vY k v):=by
 unfold vY;split
 ·exact ⟨h,h1,h2,h3,h4,by dsimp only;simp only [sh,AS,bN];omega⟩
 ·exact ⟨h,h1,h2,h3,h4,by omega⟩
theorem rc {r:al}(h:eA r){L:List af}(hL:kL L):eA {r with Shelf:=⟨L⟩}:=⟨hL,h.book,h.table⟩
theorem od {r:al}(h:eA r){b:aF}(hb:my b):eA {r with ca:=b}:=⟨h.shelf,hb,h.table⟩
theorem Xb {w v:ah}(h:eA v.r)(h1:v.o=w.o)(h2:v.x.Client=w.x.Client)(h3:v.x.Seq=w.x.Seq)(h4:v.r.Seen=w.r.Seen)(h5:v.l.length<=w.l.length)(id:Int):Az w (Ax v id):=by have hl:=EY v.r.Shelf.L id;have hs:=h.shelf.len;refine ⟨rc h (UO h.shelf id),h1,h2,h3,h4,?_⟩;unfold Ax;dsimp only;rw [sh,List.length_map];omega
theorem AA (ids:List Int): ∀{v:ah},eA v.r->eA (mz v ids).r/\(mz v ids).o=v.o/\(mz v ids).x=v.x/\(mz v ids).r.Seen=v.r.Seen/\(mz v ids).r.ca=v.r.ca/\(mz v ids).r.bJ=v.r.bJ:=by
 unfold mz;induction ids with
 |nil=>intro v h;exact ⟨h,rfl,rfl,rfl,rfl,rfl⟩
 |cons i ids ih=>intro v h;obtain ⟨h1,h2,h3,h4,h5,h6⟩:=ih (v:=Ax v i) (rc h (UO h.shelf i));exact ⟨h1,h2,h3,h4,h5,h6⟩
theorem Xc {L:List ar}(h:JX L)(w:ar):JX (EW L w).1:=by
 unfold EW;split
 ·exact h
 rename_i h1;split
 ·exact h
 rename_i h2;split
 ·exact h
 rename_i h3;split
 ·exact h
 rename_i h4;refine ⟨by dsimp only;simp only [sh,AS,bN];omega,λx hx=> ?_,?_⟩
 ·rcases List.mem_append.1 hx with hx|hx
  ·exact h.all x hx
  ·rw [AI.1 hx];exact ⟨by simpa using h1,by omega⟩
 ·dsimp only;rw [List.nodup_append];refine ⟨h.nodup,by simp,λx hx y hy Q7=> ?_⟩;rw [AI.1 hy] at Q7;exact h3 (Q7▸hx)
theorem QP {w:ah}(h:eA w.r):Az w (S5 w):=by
 have hs:=h.shelf.len;unfold S5;split
 ·exact ⟨h,rfl,rfl,rfl,rfl,by omega⟩
 split
 ·unfold Bc;split
  ·exact ⟨h,rfl,rfl,rfl,rfl,by show w.l.length<=_;omega⟩
  ·exact J0 (rc h (SY h.shelf _ _ _)) rfl rfl rfl rfl (by show w.l.length<=_;omega)
 split
 ·exact ⟨h,rfl,rfl,rfl,rfl,by show w.l.length<=_;omega⟩
 split
 ·unfold WY QO;have hc:Az w (vY 2 (ql w (DR w.r.Shelf.L w.o.Path w.o.Value w.o.Version))):=J0 (rc h (UR h.shelf _ _ _)) rfl rfl rfl rfl (by show w.l.length<=_;omega);generalize vY 2 (ql w (DR w.r.Shelf.L w.o.Path w.o.Value w.o.Version))=v at hc;split
  ·exact ⟨hc.toeA,hc.o,hc.eF,hc.seq,hc.seen,hc.len⟩
  ·exact hc
 split
 ·exact J0 (rc h (aey h.shelf _ _)) rfl rfl rfl rfl (by show w.l.length<=_;omega)
 split
 ·exact ⟨h,rfl,rfl,rfl,rfl,by show w.l.length<=_;omega⟩
 split
 ·exact ⟨od h (aeC h.book _ _),rfl,rfl,rfl,rfl,by show w.l.length<=_;omega⟩
 split
 ·exact ⟨od h (abg h.book _).1,rfl,rfl,rfl,rfl,by show w.l.length<=_;omega⟩
 split
 ·unfold EZ;split
  ·exact Xb (w:=w) (v:=JZ w (uk w.r.ca w.o.Session)) (od h (QM h.book w.o.Session)) rfl rfl rfl rfl (Nat.le_refl _) _
  ·exact ⟨od h (QM h.book _),rfl,rfl,rfl,rfl,by show w.l.length<=_;omega⟩
 split
 ·unfold MP;split
  ·rename_i he;have hd:=MO (BS w.r.ca w.o.Span) (Ay w);obtain ⟨h1,h2,h3,h4,h5,h6⟩:=AA (BS w.r.ca w.o.Span) (v:=Ay w) (od h (Oz h.book he));have e1:(Ay w).l.length=w.l.length:=rfl;have e2:(Ay w).r.Shelf.L.length=w.r.Shelf.L.length:=rfl;exact ⟨h1,h2,by rw [h3];rfl,by rw [h3];rfl,h4,by omega⟩
  ·exact ⟨h,rfl,rfl,rfl,rfl,by show w.l.length<=_;omega⟩
 ·exact ⟨⟨h.shelf,h.book,Xc h.table _⟩,rfl,rfl,rfl,rfl,by show w.l.length<=_;omega⟩
theorem sH {L:List ae}{o:aa}(h:(dp L o).2=false):Cx o=true/\(dp L o).1=Cy o 0/\((fe L o.Client).2=true->(fe L o.Client).1.Seq<o.Seq)/\((fe L o.Client).2=false->L.length<50):=by
 unfold dp at h⊢;split at h
 ·cases h
 rename_i h1;have hm:Cx o=true:=by simpa using h1
 rw [if_neg h1];split at h
 ·rename_i h2;rw [if_pos h2];split at h
  ·cases h
  rename_i h3;split at h
  ·cases h
  rename_i h4;rw [if_neg h3,if_neg h4];exact ⟨hm,rfl,λ_=>by omega,λhh=>by rw [hh] at h2;cases h2⟩
 ·rename_i h2;rw [if_neg h2];split at h
  ·cases h
  rename_i h3;rw [if_neg h3];exact ⟨hm,rfl,λhh=>absurd hh h2,λ_=>by omega⟩
theorem abr (L:List ae)(c:Int):(fe L c).2=kY kh L c:=by unfold fe;cases kY kh L c<;>rfl
theorem Xd {r:al}(h:dQ r)(o:aa):qR r o=some (cK r o):=by
 have hf:=h.few;unfold qR cK jA;rw [abq h,az];cases hk:(dp r.Seen o).2 with
 |true=>rfl
 |false=>
  rw [if_neg (by decide),if_neg (by decide)];obtain ⟨hm,zo,CE,sv⟩:=sH hk;have hp:=OA hm;have hs:=h.shelf.len;have hd:=QP (w:=⟨r,o,(dp r.Seen o).1,[]⟩) h.toeA;refine (aeH (w:=⟨r,o,(dp r.Seen o).1,[]⟩) h.toeA (by dsimp only [bN];omega) hp.2.2.1 _).trans ?_;have Us:(S5 ⟨r,o,(dp r.Seen o).1,[]⟩).x.Client=o.Client:=by rw [hd.eF,zo];rfl
  have ht:=hd.table.len;have hlen:=hd.len;generalize S5 ⟨r,o,(dp r.Seen o).1,[]⟩=w at hd ht hlen Us;dsimp only;dsimp only [bN] at hlen;rw [aez w.r.bJ w.l (by omega) (by omega),az,A8 (by omega),az,MN h.inc (by omega),az];dsimp only;unfold yQ;cases hh:kY kh r.Seen o.Client with
  |true=>obtain ⟨ON,he⟩:=(h.inc.has o.Client).1 hh;rw [if_pos rfl,if_pos rfl,b7 ON,az,Int.toNat_natCast]
  |false=>
   have hi:=JM (key:=kh) (L:=r.Seen) (a:=w.x) (by':=72) (by omega);have hi:rZ 72 r.Seen (qF kh r.Seen o.Client:Int) [w.x]=some (GC kh r.Seen w.x):=by rw [<-Us];exact hi
   rw [if_neg (by decide),if_neg (by decide),hi,az,az]
theorem aeI {r:al}(h:dQ r){c:Int}{x:ae}(hx:x.Client=c)(hc:0<=c/\c<=1000/\1<=x.Seq)(hl:kY kh r.Seen c=false->r.Seen.length<50): rF kh (yQ r.Seen c x)/\(yQ r.Seen c x).length<=50/\ ∀y∈yQ r.Seen c x,0<=y.Client/\y.Client<=1000/\1<=y.Seq:=by
 unfold yQ;subst hx;cases hh:kY kh r.Seen x.Client with
 |true=>
  obtain ⟨hk,he⟩:=(h.inc.has x.Client).1 hh;rw [if_pos rfl];refine ⟨QK (QL hk he.symm) h.inc,by rw [List.length_set];exact h.few,λy hy=> ?_⟩;rcases List.mem_or_eq_of_mem_set hy with hy|rfl
  ·exact h.seen y hy
  ·exact hc
 |false=>
  rw [if_neg (by decide)];refine ⟨UW h.inc hh,by rw [UX];have:=hl hh;omega,λy hy=> ?_⟩;rcases Oy.1 hy with hy|rfl
  ·exact h.seen y hy
  ·exact hc
theorem re {r:al}(h:dQ r)(o:aa):dQ (cK r o).1:=by
 unfold cK;cases hk:(dp r.Seen o).2 with
 |true=>exact h
 |false=>
  rw [if_neg (by decide)];obtain ⟨hm,zo,CE,sv⟩:=sH hk;have hp:=OA hm;have hd:Az ⟨r,o,(dp r.Seen o).1,[]⟩ (jA r o):=QP (w:=⟨r,o,(dp r.Seen o).1,[]⟩) h.toeA;have Us:(jA r o).x.Client=o.Client:=by rw [hd.eF,zo];rfl
  have hxs:(jA r o).x.Seq=o.Seq:=by rw [hd.seq,zo];rfl
  obtain ⟨s1,s2,s3⟩:=aeI h Us ⟨hp.1.1,hp.1.2,by rw [hxs];exact hp.2.1.1⟩ (λhh=>sv (by rw [abr];exact hh));refine ⟨⟨hd.shelf,hd.book,?_⟩,s1,s2,s3⟩;dsimp only;rw [US];exact Xa hd.table List.filter_sublist
end
end Dn.S
