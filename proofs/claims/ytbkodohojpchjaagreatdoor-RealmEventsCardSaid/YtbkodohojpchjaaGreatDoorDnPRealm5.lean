import Derived.Test.YtbkodohojpchjaaGreatDoorDnPRealm4
/-
  Realms: who is told asked for it. Conditions: none.
-/
open Go Dn
set_option linter.unusedVariables false
set_option linter.unusedSimpArgs false
namespace Dn.S
theorem LJ {w v:af} {k:Int} (h1:v.r.bk=w.r.bk) (h2:v.l=[]):(uT k v).r.bk=w.r.bk∧((uT k v).l≠[]→(uT k v).x.E=0):=by
 unfold uT
 split
 ·rename_i h;exact ⟨h1,fun _=>h⟩
 ·exact ⟨h1,fun hh=>absurd h2 hh⟩
theorem acD {w:af} (hp:dQ w.r) (hk:0≤w.o.Kind∧w.o.Kind≤11) (hl:w.l=[]):
 ((OZ w).r.bk=w.r.bk∧((OZ w).l≠[]→(OZ w).x.E=0))∨((w.o.Kind=10∨w.o.Kind=11)∧(OZ w).l=[]∧(OZ w).r.bk.L=(Ao w.r.bk.L (mX w.o)).1):=by
 have JS: ∀v:af,v.r.bk=w.r.bk→v.l=[]→v.r.bk=w.r.bk∧(v.l≠[]→v.x.E=0):=fun v h1 h2=>⟨h1,fun h=>absurd h2 h⟩
 unfold OZ
 split
 ·exact .inl (JS _ rfl hl)
 split
 ·left
  unfold zr
  split
  ·exact JS _ rfl hl
  ·exact LJ rfl hl
 split
 ·exact .inl (JS _ rfl hl)
 split
 ·left
  unfold SD M6
  have hc:=LJ (w:=w) (v:=nG w (zo w.r.Shelf.L w.o.Path w.o.Value w.o.Version)) (k:=2) rfl hl
  split<;>exact hc
 split
 ·exact .inl (LJ rfl hl)
 split
 ·exact .inl (JS _ rfl hl)
 split
 ·exact .inl (JS _ rfl hl)
 split
 ·exact .inl (JS _ rfl hl)
 split
 ·left
  unfold D7
  split
  ·rename_i hz
   exact ⟨rfl,fun _=>hz⟩
  ·exact JS _ rfl hl
 split
 ·left
  unfold JL
  split
  ·rename_i he
   obtain ⟨h1,h2,h3,h4,h5,h6⟩:=Bd (zq w.r.bM w.o.Span) (v:=yf w) (nH hp (M5 hp.book he))
   exact ⟨h6,fun _=>by rw [h3];rfl⟩
  ·exact JS _ rfl hl
 ·rename_i h0 h1 h2 h3 h4 h5 h6 h7 h8 h9
  exact .inr ⟨by omega,hl,rfl⟩
theorem SQ (L:List ak):jU L []=(L,[]):=rfl
theorem JT {r:au} (h:kP r) (o:av):
 (∀e∈(jb r o).2.2,e.W∈r.bk.L∧nF e.C e.W=true∧(jb r o).2.1.E=0)∧
 (∀x∈(jb r o).1.bk.L,x∈r.bk.L∨(x=mX o∧(o.Kind=10∨o.Kind=11)))∧
 ((jb r o).1.bk.L.length+(jb r o).2.2.length=r.bk.L.length∨((jb r o).2.2=[]∧(jb r o).1.bk.L.length=r.bk.L.length+1)):=by
 unfold jb
 cases hk:(jE r.Seen o).2 with
 |true=>exact ⟨fun e he=>(by cases he),fun x hx=> .inl hx,.inl rfl⟩
 |false=>
  rw [if_neg (by decide)]
  obtain ⟨hm,Ic,BK,uU⟩:=As hk
  have hp:=HI hm
  dsimp only
  rcases acD (w:=⟨r,o,(jE r.Seen o).1,[]⟩) h.todQ hp.2.2.1 rfl with ⟨h1,h2⟩|⟨h1,h2,h3⟩
  ·have h1:(ol r o).r.bk=r.bk:=h1
   have h2:(ol r o).l≠[]→(ol r o).x.E=0:=h2
   rw [h1]
   refine ⟨fun e he=> ?_,fun x hx=> ?_,.inl (Gi _ _)⟩
   ·obtain ⟨g1,g2⟩:=YA _ _ e he
    refine ⟨g1,?_,h2 fun hn=> ?_⟩
    ·have:=List.find?_some g2
     exact this
    ·rw [hn] at he;cases he
   ·rw [MZ] at hx
    exact .inl (List.mem_filter.1 hx).1
  ·have h2:(ol r o).l=[]:=h2
   have h3:(ol r o).r.bk.L=(Ao r.bk.L (mX o)).1:=h3
   have h1:o.Kind=10∨o.Kind=11:=h1
   rw [h2,SQ,h3]
   refine ⟨fun e he=>(by cases he),fun x hx=> ?_,?_⟩
   ·unfold Ao at hx
    split at hx
    ·exact .inl hx
    split at hx
    ·exact .inl hx
    split at hx
    ·exact .inl hx
    split at hx
    ·exact .inl hx
    rcases List.mem_append.1 hx with hx|hx
    ·exact .inl hx
    ·exact .inr ⟨List.mem_singleton.1 hx,h1⟩
   ·unfold Ao
    split
    ·exact .inl rfl
    split
    ·exact .inl rfl
    split
    ·exact .inl rfl
    split
    ·exact .inl rfl
    exact .inr ⟨rfl,by simp⟩
def LL (w:ak) (o:av):Bool:=decide (o.Client=w.Client)&&(decide (o.Path=w.Path)&&(decide (decide (o.Kind=11)=w.Kids)&&(decide (o.Kind=10)||decide (o.Kind=11))))
theorem YE {o:av} (h:o.Kind=10∨o.Kind=11):LL (mX o) o=true:=by
 unfold LL mX
 rcases h with h|h<;>simp [h]
theorem SR (l:List av): ∀{r:au} (pre:List av),kP r→(∀x∈r.bk.L,pre.any (LL x)=true)→ ∀x∈(iA r l).bk.L,(pre++l).any (LL x)=true:=by
 unfold iA
 induction l with
 |nil=>intro r pre h hr x hx;rw [List.append_nil];exact hr x hx
 |cons o l ih=>
  intro r pre h hr x hx
  have:=ih (r:=(jb r o).1) (pre++[o]) (zt h o) (fun y hy=>by
   rw [List.any_append]
   rcases (JT h o).2.1 y hy with hy|⟨rfl,hk⟩
   ·rw [hr y hy];rfl
   ·rw [show ([o]:List av).any (LL (mX o))=true by simp [YE hk],Bool.or_true]) x hx
  rwa [List.append_assoc,List.singleton_append] at this
theorem SS {α:Type} {L:List α} {q:α→Bool} {n:Nat} (hn:n≤L.length):(List.range n).any (fun k=>(L[k]?).any q)=(L.take n).any q:=by
 rw [←Gb (L:=L.take n) (q:=q),List.length_take,Nat.min_eq_left hn]
 rw [Bool.eq_iff_iff,List.any_eq_true,List.any_eq_true]
 constructor
 ·rintro ⟨k,hk,h⟩
  have S2:=List.mem_range.1 hk
  exact ⟨k,hk,by rw [List.getElem?_take,if_pos S2];exact h⟩
 ·rintro ⟨k,hk,h⟩
  have S2:=List.mem_range.1 hk
  exact ⟨k,hk,by rw [List.getElem?_take,if_pos S2] at h;exact h⟩
theorem BG (l:List av):lG l=some true:=by
 unfold lG
 obtain ⟨b,hb,hs⟩:=LI l
 rw [hb,aR,LH]
 cases b with
 |false=>rfl
 |true=>
 have hl:=hs rfl
 rw [if_neg (by decide),JN,aR]
 have iw:Loop (gn l) (JR ng 0)=some (.inl ()):=by
  refine bV.eq (bV.count (fun k=>JR (iA ng (l.take k)) (k:Int)) l.length (fun _=>True) (by simp [iA]) trivial (fun k hk _=> ?_) (fun _=> ?_))
  ·have mC:=Vv (l.take k) HJ
   have acE:=SR (l.take k) (r:=ng) [] HJ (fun x hx=>by cases hx)
   rw [List.nil_append] at acE
   have Fh:iA ng (l.take (k+1))=(jb (iA ng (l.take k)) l[k]).1:=yd hk
   rw [Fh]
   have ha:=At mC l[k]
   obtain ⟨v1,v2,v3⟩:=JT mC l[k]
   have ht:=mC.table.len
   have Ei:=(zt mC l[k]).table.len
   unfold gn JR
   dsimp only
   rw [if_pos (by omega),cg hk]
   refine bV.of (a:=Sum.inl (JR (jb (iA ng (l.take k)) l[k]).1 ((k+1:Nat):Int))) (cX ha ?_) ?_
   rotate_left
   ·exact ⟨rfl,trivial⟩
   rw [aR]
   generalize jb (iA ng (l.take k)) l[k]=p at v1 v2 v3 Ei
   have H7:p.2.2.length≤200:=by
    rcases v3 with h|⟨h,_⟩
    ·omega
    ·rw [h];exact Nat.zero_le _
   have hL3:Loop (gm l ((iA ng (l.take k)).Shelf.L,(iA ng (l.take k)).bM.fQ,(iA ng (l.take k)).bM.L,(iA ng (l.take k)).bk.L,(iA ng (l.take k)).Seen,(k:Int)) p) 0=some (.inl ()):=by
    refine bV.eq (bV.count (fun j=>(j:Int)) p.2.2.length (fun _=>True) rfl trivial (fun j hj _=> ?_) (fun _=> ?_))
    ·obtain ⟨w1,w2,w3⟩:=v1 _ (List.getElem_mem hj)
     have wa:=acE _ w1
     unfold gm
     have hL1:Loop (gk ((iA ng (l.take k)).Shelf.L,(iA ng (l.take k)).bM.fQ,(iA ng (l.take k)).bM.L,(iA ng (l.take k)).bk.L,(iA ng (l.take k)).Seen,(k:Int)) p (j:Int)) (false,0)=some true:=by
      have:((iA ng (l.take k)).bk.L.any fun x=>decide (x=p.2.2[j].W))=true:=List.any_eq_true.2 ⟨_,w1,decide_eq_true rfl⟩
      rw [←this,←Gb]
      refine Jv (iA ng (l.take k)).bk.L.length _ id (fun i b hi=> ?_) (fun b=> ?_)
      ·unfold gk
       dsimp only
       rw [if_pos (by omega),cg hi,cg hj,An,wrap64 (by omega) (by omega),List.getElem?_eq_getElem hi]
       cases b<;>rfl
      ·unfold gk
       dsimp only
       rw [if_neg (by omega)];rfl
     have hL2:Loop (gl l ((iA ng (l.take k)).Shelf.L,(iA ng (l.take k)).bM.fQ,(iA ng (l.take k)).bM.L,(iA ng (l.take k)).bk.L,(iA ng (l.take k)).Seen,(k:Int)) p (j:Int)) (false,0)=some true:=by
      rw [←wa,←SS (by omega)]
      refine Jv k _ id (fun i b hi=> ?_) (fun b=> ?_)
      ·unfold gl
       have hil:i<l.length:=by omega
       dsimp only
       rw [if_pos (by omega),cg hil,cg hj,cg hj,cg hj,wrap64 (by omega) (by omega),List.getElem?_eq_getElem hil]
       have hw:(if l[i].Client=p.2.2[j].W.Client then if l[i].Path=p.2.2[j].W.Path then if decide (l[i].Kind=11)=p.2.2[j].W.Kids then if l[i].Kind=10 then some true else some (decide (l[i].Kind=11)) else some false else some false else some false)=some (LL p.2.2[j].W l[i]):=by
        unfold LL
        by_cases h1:l[i].Client=p.2.2[j].W.Client
        ·rw [if_pos h1,decide_eq_true h1,Bool.true_and]
         by_cases h2:l[i].Path=p.2.2[j].W.Path
         ·rw [if_pos h2,decide_eq_true h2,Bool.true_and]
          by_cases h3:decide (l[i].Kind=11)=p.2.2[j].W.Kids
          ·rw [if_pos h3,decide_eq_true h3,Bool.true_and]
           by_cases h4:l[i].Kind=10
           ·rw [if_pos h4,decide_eq_true h4];rfl
           ·rw [if_neg h4,decide_eq_false h4];rfl
          ·rw [if_neg h3,decide_eq_false h3];rfl
         ·rw [if_neg h2,decide_eq_false h2];rfl
        ·rw [if_neg h1,decide_eq_false h1];rfl
       cases b with
       |true=>rfl
       |false=>
        rw [if_neg (by decide),hw];rfl
      ·unfold gl
       dsimp only
       rw [if_neg (by omega)];rfl
     rw [if_pos (by omega),hL1,aR,hL2,aR,if_neg (by decide),if_neg (by decide),cg hj,cg hj,DY,aR,w2,if_neg (by decide),w3,decide_eq_true rfl,aR,if_neg (by decide),wrap64 (by omega) (by omega)]
     exact .mk ⟨by omega,trivial⟩
    ·unfold gm
     rw [if_neg (by omega)]
     exact .mk rfl
   rw [hL3,aR]
   dsimp only
   rw [wrap64 (by omega) (by omega),wrap64 (by omega) (by omega),wrap64 (by omega) (by omega)]
   rcases v3 with h|⟨h1,h2⟩
   ·rw [decide_eq_true (by omega),if_neg (by decide),aR,if_neg (by decide)]
    rfl
   ·rw [h1,h2]
    rw [decide_eq_false (by simp only [List.length_nil];omega),if_pos (show (!false)=true from rfl),if_neg (by decide),decide_eq_true (by omega),aR,if_neg (by decide)]
    rfl
  ·unfold gn JR
   dsimp only
   rw [if_neg (by omega)]
   exact .mk rfl
 refine cX iw ?_
 rfl
end Dn.S
