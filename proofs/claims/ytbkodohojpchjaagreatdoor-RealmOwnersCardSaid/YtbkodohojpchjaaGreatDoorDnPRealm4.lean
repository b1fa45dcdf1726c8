import Derived.Test.YtbkodohojpchjaaGreatDoorDnPRealmA
/-
  Realms: whose nodes there are; a realm stays right. Conditions: none.
-/
open Go Dn
set_option linter.unusedVariables false
set_option linter.unusedSimpArgs false
namespace Dn.S
def yp (r:aq):Prop:= ∀n∈r.Shelf.L,n.bj≠0→fY dO r.bF.L n.bj=true
theorem Ac {r s:aq} (h:yp r) (h1: ∀n∈s.Shelf.L,∃m∈r.Shelf.L,m.bj=n.bj) (h2: ∀i,fY dO r.bF.L i=true→fY dO s.bF.L i=true):yp s:=by
 intro n hn ho
 obtain ⟨m,hm,he⟩:=h1 n hn
 refine h2 _ ?_
 rw [←he]
 exact h m hm (by rw [he];exact ho)
theorem T0 (w:af) (k:Int):(wV k w).r=w.r:=by unfold wV;split<;>rfl
theorem MX {L:List ae} {p value:List UInt8} {owner:Int} {n:ae} (hn:n∈(nv L p value owner).1):n∈L∨n.bj=owner:=by
 unfold nv at hn
 split at hn
 ·dsimp only at hn
  rcases IH.1 hn with hn|hn
  ·exact .inr (by rw [hn])
  ·exact .inl hn
 ·exact .inl hn
theorem Qi {L:List ae} (lW:ik L) {p value:List UInt8} {version:Int} {n:ae} (hn:n∈(xP L p value version).1): ∃m∈L,m.bj=n.bj:=by
 unfold xP at hn
 split at hn
 ·rename_i he
  obtain ⟨hf,_,_⟩:=N8 he
  rcases List.mem_or_eq_of_mem_set hn with hn|rfl
  ·exact ⟨n,hn,rfl⟩
  ·obtain ⟨_,i,hi,h1,h2⟩:=IG hf
   refine ⟨L[i],List.getElem_mem hi,?_⟩
   unfold jO
   rw [if_pos hf,h1,Int.toNat_natCast,List.getElem?_eq_getElem hi];rfl
 ·exact ⟨n,hn,rfl⟩
theorem WA {L:List ae} {p:List UInt8} {version:Int} {n:ae} (hn:n∈(II L p version).1):n∈L:=by
 unfold II at hn
 split at hn
 ·exact (IL _ _).subset hn
 ·exact hn
theorem KZ {L:List ae} {id:Int} {n:ae}:n∈(cN L id).1↔n∈L∧ ¬(0<id∧n.bj=id):=by
 unfold cN
 dsimp only
 rw [List.mem_filter]
 unfold tI
 by_cases h1:0<id<;>by_cases h2:n.bj=id<;>simp [h1,h2]
theorem Qj (ids:List Int): ∀{v:af} {n:ae},n∈(jA v ids).r.Shelf.L↔n∈v.r.Shelf.L∧ ∀i∈ids,¬(0<i∧n.bj=i):=by
 unfold jA
 induction ids with
 |nil=>intro v n;simp
 |cons i ids ih=>
  intro v n
  rw [List.foldl_cons,ih]
  have:n∈(vo v i).r.Shelf.L↔n∈v.r.Shelf.L∧ ¬(0<i∧n.bj=i):=KZ
  rw [this,List.forall_mem_cons]
  exact ⟨fun h=>⟨h.1.1,h.1.2,h.2⟩,fun h=>⟨⟨h.1,h.2.1⟩,h.2.2⟩⟩
theorem ZJ {w:af} (hp:dY w.r) (h:yp w.r):yp (Ww w).r:=by
 have dg: ∀n∈w.r.Shelf.L,0≤n.bj:=fun n hn=>(hp.shelf.vr n hn).2.2.2
 unfold Ww
 split
 ·exact h
 split
 ·unfold z8
  split
  ·exact h
  rename_i hc
  rw [T0]
  intro n hn ho
  have hn:n∈(nv w.r.Shelf.L w.o.Path w.o.Value w.o.Session).1:=hn
  show fY dO w.r.bF.L n.bj=true
  rcases MX hn with hn|hn
  ·exact h n hn ho
  ·rw [hn] at ho⊢
   cases hh:fY dO w.r.bF.L w.o.Session with
   |true=>rfl
   |false=>exact absurd ⟨ho,hh⟩ hc
 split
 ·exact h
 split
 ·unfold TM Oe
  have hs:yp (wV 2 (n0 w (xP w.r.Shelf.L w.o.Path w.o.Value w.o.Version))).r:=by
   rw [T0]
   exact Ac h (fun n hn=>Qi hp.shelf hn) (fun i hi=>hi)
  split<;>exact hs
 split
 ·unfold Cx
  rw [T0]
  exact Ac h (fun n hn=>⟨n,WA hn,rfl⟩) (fun i hi=>hi)
 split
 ·exact h
 split
 ·refine Ac h (fun n hn=>⟨n,hn,rfl⟩) (fun i hi=> ?_)
  show fY dO (yo w.r.bF w.o.Session w.o.Span).L i=true
  unfold yo
  split
  ·obtain ⟨x,hx,he⟩:=qY.1 hi
   exact qY.2 ⟨x,IK.2 (.inl hx),he⟩
  ·exact hi
 split
 ·exact Ac h (fun n hn=>⟨n,hn,rfl⟩) (fun i hi=>((KQ hp.book w.o.Session).2 i).trans hi)
 split
 ·unfold EY
  split
  ·rename_i hz
   intro n hn ho
   have hn:n∈(cN w.r.Shelf.L w.o.Session).1:=hn
   obtain ⟨h1,h2⟩:=KZ.1 hn
   show fY dO (jV w.r.bF w.o.Session).1.L n.bj=true
   rw [Qb hp.book hz,h n h1 ho]
   have:=dg n h1
   have:n.bj≠w.o.Session:=fun he=>h2 ⟨by omega,he⟩
   simpa using this
  ·rename_i hz
   have:(jV w.r.bF w.o.Session).1=w.r.bF:=by
    unfold jV at hz⊢
    split at hz
    ·exact absurd rfl hz
    ·rename_i hh;rw [if_neg hh]
   intro n hn ho
   show fY dO (jV w.r.bF w.o.Session).1.L n.bj=true
   rw [this]
   exact h n hn ho
 split
 ·unfold KT
  split
  ·rename_i he
   obtain ⟨h1,h2,h3,h4,h5,h6⟩:=BR (vn w.r.bF w.o.Span) (v:=y4 w) (n3 hp (Od hp.book he))
   intro n hn ho
   obtain ⟨k1,k2⟩:=(Qj _).1 hn
   have k1:n∈w.r.Shelf.L:=k1
   rw [h5]
   show fY dO (EW w.r.bF w.o.Span).L n.bj=true
   rw [TH hp.book,h n k1 ho]
   have:=dg n k1
   have:n.bj∉vn w.r.bF w.o.Span:=fun hm=>k2 _ hm ⟨by omega,rfl⟩
   simpa using this
  ·exact h
 ·exact h
theorem Hn {r:aq} (h:kf r) (ho:yp r) (o:aB):yp (nw r o).1:=by
 unfold nw
 split
 ·exact ho
 ·exact ZJ (w:=⟨r,o,(kN r.Seen o).1,[]⟩) h.todY ho
theorem FZ {b:az} (h:iY b):oO b=some true:=by
 have hn:=h.now
 have hl:=h.len
 unfold oO
 rw [if_neg (by omega),if_neg (by omega),decide_eq_false (by omega),aM,if_neg (by decide)]
 have fZ:Loop (lL b) 0=some (.inl ()):=by
  refine bK.eq (bK.count (fun k=>(k:Int)) b.L.length (fun _=>True) rfl trivial (fun k hk _=> ?_) (fun _=> ?_))
  ·unfold lL
   have hx:=h.all _ (List.getElem_mem hk)
   rw [if_pos (by omega),cg hk]
   have hw:(if (k:Int)=0 then some true else ix b.L (IntKind.wrap .i64 ((k:Int)-1)) fun y1=>some (decide (y1.Id<b.L[k].Id)))=some true:=by
    by_cases h0:k=0
    ·rw [if_pos (by omega)]
    ·have LR:k-1<b.L.length:=by omega
     rw [if_neg (by omega),wrap64 (by omega) (by omega),show (k:Int)-1=((k-1:Nat):Int) by omega,cg LR]
     have cz:b.L[k-1].Id<b.L[k].Id:=h.inc.lt hk (by omega)
     rw [decide_eq_true cz]
   rw [hw,aM,if_neg (by decide),if_neg (by omega),if_neg (by omega),if_neg (by omega),if_neg (by omega),wrap64 (by omega) (by omega),decide_eq_false (by omega),aM,if_neg (by decide),wrap64 (by omega) (by omega)]
   exact .mk ⟨by omega,trivial⟩
  ·unfold lL
   rw [if_neg (by omega)]
   exact .mk rfl
 rw [fZ,aM]
theorem F1 {t:bo} (h:yY t.L):kD t=some true:=by
 obtain ⟨b,hb,hi⟩:=FX t.L (by have:=h.len;omega)
 have hb:kD t=some b:=hb
 rw [hb,hi.2 h]
theorem F3 {r:aq} (h:kf r):oP r=some true:=by
 have hf:=h.few
 have hs:=h.shelf.len
 unfold oP
 rw [FU _ (by omega),PV.2 h.shelf,aM,if_neg (by decide),FZ h.book,aM,if_neg (by decide),F1 h.table,aM,if_neg (by decide),decide_eq_false (by omega),aM,if_neg (by decide)]
 have fZ:Loop (lM r) (-1,0)=some (.inl ()):=by
  refine bK.eq (bK.count (fun k=>((if k=0 then (-1:Int) else (r.Seen[k-1]?).elim 0 (·.Client)),(k:Int))) r.Seen.length (fun _=>True) rfl trivial (fun k hk _=> ?_) (fun _=> ?_))
  ·unfold lM
   have hx:=h.seen _ (List.getElem_mem hk)
   dsimp only
   rw [if_pos (by omega),cg hk]
   have cz:(if k=0 then (-1:Int) else (r.Seen[k-1]?).elim 0 (·.Client))<r.Seen[k].Client:=by
    by_cases h0:k=0
    ·rw [if_pos h0];omega
    ·rw [if_neg h0,List.getElem?_eq_getElem (show k-1<r.Seen.length by omega)]
     exact h.inc.lt hk (by omega)
   rw [if_neg (by omega),if_neg (by omega),decide_eq_false (by omega),aM,if_neg (by decide),wrap64 (by omega) (by omega)]
   refine .mk ⟨?_,trivial⟩
   rw [if_neg (by omega),Nat.add_sub_cancel,List.getElem?_eq_getElem hk]
   simp
  ·unfold lM
   dsimp only
   rw [if_neg (by omega)]
   exact .mk rfl
 rw [fZ,aM]
theorem WB:yp Ba:=fun n hn ho=>by rw [List.mem_singleton.1 hn] at ho;exact absurd rfl ho
theorem MY (l:List aB):bK (tf l) fun b=>b=true→l.length≤30:=by
 unfold tf
 refine bK.bd (P:=fun r=>(r= .inl ()∧l.length≤30)∨r= .inr false) ?_ ?_
 ·refine bK.count (fun k=>(k:Int)) l.length (fun k=>k≤30) rfl (by omega) (fun k hk hp=> ?_) (fun hp=> ?_)
  ·unfold rR
   rw [if_pos (by omega)]
   by_cases Sw:(k:Int)=30
   ·rw [if_pos Sw,aM,if_pos rfl];exact .mk (.inr rfl)
   rw [if_neg Sw,cg hk]
   by_cases h1:(200:Int)<(l[k].Path.length:Int)
   ·rw [if_pos h1,aM,if_pos rfl];exact .mk (.inr rfl)
   rw [if_neg h1,cg hk,aM]
   by_cases h2:(1100:Int)<(l[k].Value.length:Int)
   ·rw [decide_eq_true h2,if_pos rfl];exact .mk (.inr rfl)
   rw [decide_eq_false h2,if_neg (by decide),wrap64 (by omega) (by omega)]
   exact .mk ⟨by omega,by omega⟩
  ·unfold rR
   rw [if_neg (by omega)]
   exact .mk (.inl ⟨rfl,hp⟩)
 ·rintro r (⟨rfl,h⟩|rfl)
  ·exact .mk (fun _=>h)
  ·exact .mk (fun h=>by cases h)
noncomputable def vq (r:aq) (l:List aB):aq:=l.foldl (fun r o=>(nw r o).1) r
theorem WC (l:List aB): ∀{r:aq},kf r→kf (vq r l):=by
 unfold vq
 induction l with
 |nil=>intro r h;exact h
 |cons o l ih=>intro r h;exact ih (Ab h o)
theorem T2 (l:List aB): ∀{r:aq},kf r→yp r→yp (vq r l):=by
 unfold vq
 induction l with
 |nil=>intro r h ho;exact ho
 |cons o l ih=>intro r h ho;exact ih (Ab h o) (Hn h ho o)
def K0 (r:aq) (k:Int):(List ae)×Int×(List ay)×(List ak)×(List ai)×Int:=(r.Shelf.L,r.bF.fE,r.bF.L,r.ck.L,r.Seen,k)
theorem Co (l:List aB):ma l=some true:=by
 unfold ma
 obtain ⟨b,hb,hs⟩:=MY l
 rw [hb,aM,MW]
 cases b with
 |false=>rfl
 |true=>
 have hl:=hs rfl
 rw [if_neg (by decide),KV,aM]
 have fZ:Loop (gX l) (K0 Ba 0)=some (.inl ()):=by
  refine bK.eq (bK.count (fun k=>K0 (vq Ba (l.take k)) (k:Int)) l.length (fun _=>True) (by simp [vq]) trivial (fun k hk _=> ?_) (fun _=> ?_))
  ·have lW:=WC (l.take k) IM
   have how:=T2 (l.take k) IM WB
   have Gl:vq Ba (l.take (k+1))=(nw (vq Ba (l.take k)) l[k]).1:=yX hk
   rw [Gl]
   have ha:=A9 lW l[k]
   have WD:=Ab lW l[k]
   have agy:=Hn lW how l[k]
   unfold gX K0
   dsimp only
   rw [if_pos (by omega),cg hk]
   refine bK.of (a:=Sum.inl (K0 (nw (vq Ba (l.take k)) l[k]).1 ((k+1:Nat):Int))) (db ha ?_) ?_
   rotate_left
   ·exact ⟨rfl,trivial⟩
   rw [aM]
   have lU:=WD.shelf.len
   have hL1:Loop (gV (nw (vq Ba (l.take k)) l[k])) 0=some (.inl ()):=by
    refine bK.eq (bK.count (fun k=>(k:Int)) (nw (vq Ba (l.take k)) l[k]).1.Shelf.L.length (fun _=>True) rfl trivial (fun j hj _=> ?_) (fun _=> ?_))
    ·unfold gV
     have hn:=List.getElem_mem hj
     have h0:=(WD.shelf.vr _ hn).2.2.2
     rw [if_pos (by omega),cg hj,if_neg (by omega)]
     by_cases hp:(0:Int)<(nw (vq Ba (l.take k)) l[k]).1.Shelf.L[j].bj
     ·rw [if_pos hp,TD WD.book,agy _ hn (by omega),aM,aM,if_neg (by decide),wrap64 (by omega) (by omega)]
      exact .mk ⟨by omega,trivial⟩
     ·rw [if_neg hp,aM,if_neg (by decide),wrap64 (by omega) (by omega)]
      exact .mk ⟨by omega,trivial⟩
    ·unfold gV
     rw [if_neg (by omega)]
     exact .mk rfl
   rw [hL1,aM]
   dsimp only
   rw [F3 WD,aM,if_neg (by decide),wrap64 (by omega) (by omega)]
   rfl
  ·unfold gX K0
   dsimp only
   rw [if_neg (by omega)]
   exact .mk rfl
 refine db fZ ?_
 rfl
end Dn.S
