import Derived.Test.YtbkodohojpchjaaGreatDoorDnPShelf8
/-
  Shelves: what the document says of changes; ShelfChanges. Conditions: none.
-/
set_option linter.unusedVariables false
set_option linter.unusedSimpArgs false
open List renaming length_map→c9,length_take→sh,length_cons→AI,length_nil→AS,map_append→AT,take_length→By,drop_of_length_le→BY,length_filter_le→IN,length_append→IS,getElem_mem→IT,drop_append→No,nil_append→aar
open Nat renaming le_refl→OF,min_eq_left→aaq
open Go Dn
namespace Dn.S
theorem OJ {p:List UInt8}(h:bA p=true)(h1:p≠[47]):bA (cy p).1=true:=by
 have Wk:(cy p).1=lM ((aH p).take ((aH p).length-1)):=by unfold cy;rw [h];simp [h1,List.dropLast_eq_take]
 rw [Wk];exact (TG h _).1
theorem fF (s:aD):(dp s).L.length=s.L.length:=c9 ..
theorem EG {s:aD}(hl:s.L.length<2^40)(p:List UInt8):tp (dp s) p=some (rN (s.L.map (·.Path)) p):=by rw [agy _ _ (by rw [fF];exact hl)];have hpp:(dp s).L.map (·.Path)=s.L.map (·.Path):=GB s.L;rw [hpp]
theorem qA {s:aD}{k:Nat}(hk:k<s.L.length):(dp s).L[k]'(by rw [fF];exact hk)=toR s.L[k]:=List.getElem_map ..
theorem at_root {L:List ah}(h:ga L):0<=rN (L.map (·.Path)) [47]:=by
 obtain ⟨m,hm,hr⟩:=h.root;by_cases h0:0<=rN (L.map (·.Path)) [47]
 ·exact h0
 ·exact absurd hr (abC h0 m hm)
def AL (L:List ah)(i0:Nat)(n:ah)(k:Nat):List ah:=if k<=i0 then L.take k else L.take i0++n::(L.take k).drop i0
theorem Ro {L:List ah}{i0:Nat}{n:ah}{k:Nat}(hk:k<=L.length):(AL L i0 n k).length<=k+1:=by
 unfold AL;split
 ·rw [sh];omega
 ·rw [IS,AI,List.length_drop,sh,sh];omega
theorem OL {s:aD}(mR:ga s.L)(p value:List UInt8)(owner:Int):tF (dp s) p value owner=some (dp ⟨(jT s.L p value owner).1⟩,(jT s.L p value owner).2):=by
 have hl:=mR.len;have hs:=mR.ord;unfold tF jT;rw [rM,av];cases hp:bA p with
 |false=>
  have he:eG s.L p value owner=13:=by unfold eG;rw [hp];rfl
  rw [he];rfl
 |true=>
  rw [if_neg (by decide),EG (by omega),av];by_cases h0:0<=rN (s.L.map (·.Path)) p
  ·have he:eG s.L p value owner=7:=by unfold eG;rw [hp];simp [h0]
   rw [if_pos h0,he];rfl
  rw [if_neg h0,yL,av];show bd (tp (dp s) (cy p).1) _=_;rw [EG (by omega),av];have kl:p≠[47]:=λe=>h0 (by rw [e];exact at_root mR);have hup:=OJ hp kl;have Zl:(en s.L (cy p).1).2=0↔0<=rN (s.L.map (·.Path)) (cy p).1:=by rw [FI];unfold cr;rw [hup];by_cases h:0<=rN (s.L.map (·.Path)) (cy p).1<;>simp [h]
  by_cases h1:0<=rN (s.L.map (·.Path)) (cy p).1;rotate_left
  ·have he:eG s.L p value owner=6:=by unfold eG;rw [hp];simp only [if_true,h0,if_false,Zl,h1]
   rw [if_pos (by omega),he];rfl
  have dY:=OE h1;rw [c9] at dY;have hg:(en s.L (cy p).1).1=s.L[(rN (s.L.map (·.Path)) (cy p).1).toNat]:=by
   have h0':=Zl.2 h1;rw [FI] at h0';obtain ⟨g1,g2,_⟩:=get_at h0';rw [g2];have:(cr s.L (cy p).1).1=rN (s.L.map (·.Path)) (cy p).1:=by unfold cr;rw [hup];simp [h1]
   simp only [this]
  rw [if_neg (by omega),yJ h1 (by rw [fF];exact dY),qA dY];show (if !decide ((s.L[(rN (s.L.map (·.Path)) (cy p).1).toNat]).b5=0) then _ else _)=_;by_cases h2:(s.L[(rN (s.L.map (·.Path)) (cy p).1).toNat]).b5=0;rotate_left
  ·have he:eG s.L p value owner=10:=by unfold eG;rw [hp];simp only [if_true,h0,if_false,Zl,h1,hg,h2]
   rw [decide_eq_false h2,if_pos (by decide),he];rfl
  rw [decide_eq_true h2,if_neg (by decide),fF];by_cases h3:(1000:Int)<(value.length:Int)
  ·have he:eG s.L p value owner=5:=by unfold eG;rw [hp];simp only [if_true,h0,if_false,Zl,h1,hg,h2,h3]
   rw [if_pos h3,he];rfl
  rw [if_neg h3];by_cases h4:owner<0
  ·have he:eG s.L p value owner=1:=by unfold eG;rw [hp];simp only [if_true,h0,if_false,Zl,h1,hg,h2,h3,h4]
   rw [if_pos h4,he];rfl
  rw [if_neg h4];by_cases h5:(200:Int)<=(s.L.length:Int)
  ·have he:eG s.L p value owner=9:=by unfold eG;rw [hp];simp only [if_true,h0,if_false,Zl,h1,hg,h2,h3,h4,h5]
   rw [if_pos h5,he];rfl
  have he:eG s.L p value owner=0:=by unfold eG;rw [hp];simp only [if_true,h0,if_false,Zl,h1,hg,h2,h3,h4,h5]
  rw [if_neg h5,if_pos he];obtain ⟨i0,i1,i2,i3⟩:=ED hs (aH p);obtain ⟨e1,e2⟩:=CS (q:=X9 p) i1 i2 i3;have hah: ∀k (hk:k<s.L.length),pJ p (s.L[k]).Path=decide (i0<=k):=by
   intro k hk;unfold pJ;rw [hp,gX hs hk];simp only [Bool.true_and];by_cases O4:i0<=k
   ·rw [decide_eq_true O4];rcases Vw (aH (s.L[k]).Path) (aH p) with h|h|h
    ·rw [i3 k hk O4] at h;cases h
    ·exact absurd (FG (cR (gX hs hk)).2.1 (cR hp).2.1 h) (abC h0 _ (IT hk))
    ·exact h
   ·rw [decide_eq_false O4];exact abx (i2 k hk (by omega))
  obtain ⟨n,hn⟩: ∃n:ah,n=⟨p,value,0,owner⟩:=⟨_,rfl⟩
  have hnr:(⟨p,value,0,owner⟩:aP)=toR n:=by rw [hn]
  rw [hnr];have cw:Loop (pc (dp s) p value owner) (([]:List aP),false,0)=some ((AL s.L i0 n s.L.length).map toR,decide (i0<s.L.length)):=by
   refine aO.eq (aO.count (λk=>((AL s.L i0 n k).map toR,decide (i0<k),(k:Int))) s.L.length (λ_=>True) (by simp [AL]) trivial (λk hk _=> ?_) (λ_=> ?_))
   ·have hlk:=Ro (L:=s.L) (i0:=i0) (n:=n) (k:=k) (by omega);unfold pc;dsimp only;rw [hnr,fF,if_pos (by omega)];rcases Nat.lt_trichotomy k i0 with O4|O4|O4
    ·rw [decide_eq_false (show¬i0<k by omega),if_pos (by decide),ba (by rw [fF];exact hk),qA hk];simp only [toR_path];rw [GA,av,hah k hk,decide_eq_false (show¬i0<=k by omega),av,if_neg (by decide),av];dsimp only;rw [ba (by rw [fF];exact hk),qA hk,if_pos (by simp only [c9,AI,AS];omega),wrap64 (by omega) (by omega)];refine .mk ⟨?_,trivial⟩;have:AL s.L i0 n (k+1)=AL s.L i0 n k++[s.L[k]]:=by unfold AL;rw [if_pos (by omega),if_pos (by omega),take_succ hk]
     rw [this,decide_eq_false (show¬i0<k+1 by omega),AT];rfl
    ·subst O4;rw [decide_eq_false (show¬k<k by omega),if_pos (by decide),ba (by rw [fF];exact hk),qA hk];simp only [toR_path];rw [GA,av,hah k hk,decide_eq_true (OF k),av,if_pos rfl,if_pos (by simp only [c9,AI,AS];omega),av];dsimp only;rw [ba (by rw [fF];exact hk),qA hk,if_pos (by simp only [IS,c9,AI,AS];omega),wrap64 (by omega) (by omega)];refine .mk ⟨?_,trivial⟩;have:AL s.L k n (k+1)=AL s.L k n k++[n]++[s.L[k]]:=by unfold AL;rw [if_neg (by omega),if_pos (OF k),take_succ hk,No,BY (by rw [sh];omega),sh,aaq (by omega),Nat.sub_self];simp
     rw [this,decide_eq_true (show k<k+1 by omega),AT,AT];rfl
    ·rw [decide_eq_true O4,if_neg (by decide),av,if_neg (by decide),av];dsimp only;rw [ba (by rw [fF];exact hk),qA hk,if_pos (by simp only [c9,AI,AS];omega),wrap64 (by omega) (by omega)];refine .mk ⟨?_,trivial⟩;have:AL s.L i0 n (k+1)=AL s.L i0 n k++[s.L[k]]:=by unfold AL;rw [if_neg (by omega),if_neg (by omega),take_succ hk,No,sh,aaq (by omega),show i0-k=0 by omega];simp
     rw [this,decide_eq_true (show i0<k+1 by omega),AT];rfl
   ·unfold pc;dsimp only;rw [fF,if_neg (by omega)];exact .mk rfl
  rw [cw,av];dsimp only;have ae0:Hf s.L n=if i0<s.L.length then AL s.L i0 n s.L.length else AL s.L i0 n s.L.length++[n]:=by
   unfold Hf AL;have hnp:n.Path=p:=by rw [hn]
   rw [hnp,<-e1,<-e2];by_cases h:i0<s.L.length
   ·rw [if_pos h,if_neg (by omega),By]
   ·rw [if_neg h,if_pos (by omega),By,List.take_of_length_le (by omega),BY (by omega)]
  have hlk:=Ro (L:=s.L) (i0:=i0) (n:=n) (k:=s.L.length) (OF _);rw [<-hn,ae0];by_cases h:i0<s.L.length
  ·rw [decide_eq_true h,if_neg (by decide),av,if_pos h];rfl
  ·rw [decide_eq_false h,if_pos (by decide),if_pos (by simp only [c9,AI,AS];omega),av,if_neg h];unfold dp;rw [AT];rfl
theorem Xv {s:aD}(mR:ga s.L)(p value:List UInt8)(version:Int):DB (dp s) p value version=some (dp ⟨(xm s.L p value version).1⟩,(xm s.L p value version).2):=by
 have hl:=mR.len;have hs:=mR.ord;unfold DB xm TQ;rw [xl (by omega),av];dsimp only;rw [FI];by_cases h:(cr s.L p).2=0;rotate_left
 ·have hv:lN s.L p version=(cr s.L p).2:=by unfold lN;rw [if_neg (λh'=>h h'.1)]
  rw [decide_eq_false h,if_pos (by decide),hv];simp [h]
 obtain ⟨g2,hv,hpa,g1⟩:=get_at h;have hfl:=mR.zf _ (IT g2);rw [<-hv] at hfl;rw [decide_eq_true h,if_neg (by decide)];by_cases h1:version≠ -1/\version≠(en s.L p).1.Version
 ·have hv8:lN s.L p version=8:=by unfold lN;rw [if_pos ⟨h,h1⟩]
  rw [decide_eq_false h1.1,if_pos (by decide),av,decide_eq_false h1.2,if_pos (by decide),hv8];rfl
 ·have hw:(if !decide (version=(-1)) then some (!decide (version=(en s.L p).1.Version)) else some false)=some false:=by
   by_cases h2:version= -1
   ·simp [h2]
   ·by_cases h3:version=(en s.L p).1.Version
    ·simp [h3]
    ·exact absurd ⟨h2,h3⟩ h1
  have RU:lN s.L p version=0:=by unfold lN;rw [if_neg (λh'=>h1 h'.2)];exact h
  rw [hw,av,if_neg (by decide),if_pos RU];by_cases h3:(1000:Int)<(value.length:Int)
  ·simp [h3]
  ·rw [if_neg h3,if_neg h3];by_cases h4:(1000000000:Int)<=(en s.L p).1.Version
   ·rw [if_pos (by omega),if_pos h4];rfl
   ·have EY:rN (s.L.map (·.Path)) p=(cr s.L p).1:=by
     unfold cr at h⊢;cases hp:bA p with
     |false=>rw [hp] at h;simp at h
     |true=>
      rw [hp] at h;by_cases h0:0<=rN (s.L.map (·.Path)) p
      ·simp [h0]
      ·simp [h0] at h
    have Lx:=fF s;have Wt:(cr s.L p).1.toNat<(dp s).L.length:=by rw [Lx];exact g2
    rw [if_neg (by omega),if_neg h4,if_pos (by rw [Lx];simp;omega),EG (by omega),av,EY,aar,yJ g1 Wt];simp only [if_true];rw [wrap64 (by omega) (by omega)];unfold dp Xs;rw [List.map_set,hpa]
theorem Xw {s:aD}(mR:ga s.L)(p:List UInt8)(version:Int):tH (dp s) p version=some (dp ⟨(yN s.L p version).1⟩,(yN s.L p version).2):=by
 have hl:=mR.len;have hs:=mR.ord;unfold tH yN TR;rw [xl (by omega),av];dsimp only;rw [FI];by_cases hp:p=[47]
 ·have h:(cr s.L p).2=0:=by
   unfold cr;have:bA [47]=true:=by obtain ⟨m,hm,hr⟩:=mR.root;rw [<-hr];exact hs.1 m hm
   rw [hp,this];simp [at_root mR]
  rw [decide_eq_true h,if_neg (by decide),if_pos hp];simp [hp]
 by_cases h:(cr s.L p).2=0;rotate_left
 ·have hv:lN s.L p version=(cr s.L p).2:=by unfold lN;rw [if_neg (λh'=>h h'.1)]
  rw [decide_eq_false h,if_pos (by decide),hv];simp [h,hp]
 obtain ⟨g2,hv,hpa,g1⟩:=get_at h;rw [decide_eq_true h,if_neg (by decide),if_neg hp];by_cases h1:version≠ -1/\version≠(en s.L p).1.Version
 ·have hv8:lN s.L p version=8:=by unfold lN;rw [if_pos ⟨h,h1⟩]
  rw [decide_eq_false h1.1,if_pos (by decide),av,decide_eq_false h1.2,if_pos (by decide),hv8,if_neg hp];rfl
 ·have hw:(if !decide (version=(-1)) then some (!decide (version=(en s.L p).1.Version)) else some false)=some false:=by
   by_cases h2:version= -1
   ·simp [h2]
   ·by_cases h3:version=(en s.L p).1.Version
    ·simp [h3]
    ·exact absurd ⟨h2,h3⟩ h1
  have RU:lN s.L p version=0:=by unfold lN;rw [if_neg (λh'=>h1 h'.2)];exact h
  rw [hw,av,if_neg (by decide),if_neg hp,if_pos RU,Vy hs (by omega),av];by_cases hk:jI s.L p=[];rotate_left
  ·have:0<(jI s.L p).length:=List.length_pos_iff.2 hk;rw [if_pos (by omega),if_neg hk];rfl
  have EY:rN (s.L.map (·.Path)) p=(cr s.L p).1:=by
   unfold cr at h⊢;cases hp:bA p with
   |false=>rw [hp] at h;simp at h
   |true=>
    rw [hp] at h;by_cases h0:0<=rN (s.L.map (·.Path)) p
    ·simp [h0]
    ·simp [h0] at h
  obtain ⟨i,oP⟩: ∃i:Nat,(cr s.L p).1=(i:Int):=⟨(cr s.L p).1.toNat,by omega⟩
  have vG:(cr s.L p).1.toNat=i:=by rw [oP];rfl
  simp only [vG] at g2⊢;have Lx:=fF s;rw [hk,if_neg (by decide),if_pos rfl,EG (by omega),av,EY,oP,wrap64 (by omega) (by omega),show (i:Int)+1=((i+1:Nat):Int) by omega];rw [if_pos ⟨by omega,by omega,by omega⟩,if_pos (by simp;omega),if_pos ⟨by omega,by omega,by omega⟩,if_pos (by simp;omega)];unfold dp;simp only [if_true,aar,Int.toNat_natCast,By,AT,List.map_take,List.map_drop];simp
theorem TS (s:aD)(owner:Int)(hl:s.L.length<2^40):wP (dp s) owner=some (dp ⟨(cG s.L owner).1⟩,(cG s.L owner).2):=by
 have cw:Loop (tJ (dp s) owner) (([]:List aP),([]:List (List UInt8)),0)=some (((cG s.L owner).1).map toR,(cG s.L owner).2):=by
  refine aO.eq (aO.count (λk=>((cG (s.L.take k) owner).1.map toR,(cG (s.L.take k) owner).2,(k:Int))) s.L.length (λ_=>True) rfl trivial (λk hk _=> ?_) (λ_=> ?_))
  ·have l1:(cG (s.L.take k) owner).1.length<=k:=by unfold cG;have:=IN (pK owner) (s.L.take k);rw [sh] at this;dsimp only;omega
   have l2:(cG (s.L.take k) owner).2.length<=k:=by unfold cG;have:=IN (λn=>!pK owner n) (s.L.take k);rw [sh] at this;dsimp only;rw [c9];omega
   have e1:=vw (pK owner) hk;have e2:=vw (λn=>!pK owner n) hk;have O9:k<(dp s).L.length:=by rw [fF];exact hk
   unfold tJ;dsimp only;rw [fF,if_pos (by omega),ba O9,ba O9,ba O9,qA hk];simp only [toR_path,toR_owner];have hw:(if (0:Int)<owner then some (decide ((s.L[k]).b5=owner)) else some false)=some (!pK owner s.L[k]):=by unfold pK;by_cases h:(0:Int)<owner<;>simp [h]
   rw [hw,av,wrap64 (by omega) (by omega)];cases eR:pK owner s.L[k] with
   |true=>rw [if_neg (by decide),if_pos (by simp only [c9,AI,AS];omega),av];rw [eR] at e1 e2;refine .mk ⟨?_,trivial⟩;unfold cG;rw [e1,e2];simp
   |false=>rw [if_pos (by decide),if_pos (by simp only [AI,AS];omega),av];rw [eR] at e1 e2;refine .mk ⟨?_,trivial⟩;unfold cG;rw [e1,e2];simp
  ·unfold tJ;dsimp only;rw [fF,if_neg (by omega),By];exact .mk rfl
 unfold wP;rw [cw];rfl
end Dn.S
