import Derived.Test.YtbkodohojpchjaaGreatDoorDnPShelf8
/-
  Shelves: what the document says of changes; ShelfChanges. Conditions: none.
-/
set_option linter.unusedVariables false
set_option linter.unusedSimpArgs false
open List renaming length_map→c8,length_take→sh,length_cons→AI,length_nil→AS,map_append→AT,take_length→By,drop_of_length_le→BY,length_filter_le→IN,length_append→IS,getElem_mem→IT,drop_append→No,nil_append→aaf
open Nat renaming le_refl→OF,min_eq_left→aaa
open Go Dn
namespace Dn.S
theorem ON {p:List UInt8}(h:bn p=true)(h1:p≠[47]):bn (bS p).1=true:=by
 have S0:(bS p).1=lK ((aE p).take ((aE p).length-1)):=by unfold bS;rw [h];simp [h1,List.dropLast_eq_take]
 rw [S0];exact (T5 h _).1
theorem fF (s:aA):(ch s).L.length=s.L.length:=c8 ..
theorem EP {s:aA}(hl:s.L.length<2^40)(p:List UInt8):nh (ch s) p=some (mD (s.L.map (·.Path)) p):=by rw [abQ _ _ (by rw [fF];exact hl)];have hpp:(ch s).L.map (·.Path)=s.L.map (·.Path):=A3 s.L;rw [hpp]
theorem qv {s:aA}{k:Nat}(hk:k<s.L.length):(ch s).L[k]'(by rw [fF];exact hk)=toR s.L[k]:=List.getElem_map ..
theorem at_root {L:List af}(h:fN L):0<=mD (L.map (·.Path)) [47]:=by
 obtain ⟨m,hm,hr⟩:=h.root;by_cases h0:0<=mD (L.map (·.Path)) [47]
 ·exact h0
 ·exact absurd hr (abW h0 m hm)
def A5 (L:List af)(i0:Nat)(n:af)(k:Nat):List af:=if k<=i0 then L.take k else L.take i0++n::(L.take k).drop i0
theorem Rw {L:List af}{i0:Nat}{n:af}{k:Nat}(hk:k<=L.length):(A5 L i0 n k).length<=k+1:=by
 unfold A5;split
 ·rw [sh];omega
 ·rw [IS,AI,List.length_drop,sh,sh];omega
theorem OO {s:aA}(kJ:fN s.L)(p value:List UInt8)(owner:Int):tG (ch s) p value owner=some (ch ⟨(jT s.L p value owner).1⟩,(jT s.L p value owner).2):=by
 have hl:=kJ.len;have hs:=kJ.ord;unfold tG jT;rw [mC,al];cases hp:bn p with
 |false=>
  have he:eE s.L p value owner=13:=by unfold eE;rw [hp];rfl
  rw [he];rfl
 |true=>
  rw [if_neg (by decide),EP (by omega),al];by_cases h0:0<=mD (s.L.map (·.Path)) p
  ·have he:eE s.L p value owner=7:=by unfold eE;rw [hp];simp [h0]
   rw [if_pos h0,he];rfl
  rw [if_neg h0,sR,al];show bd (nh (ch s) (bS p).1) _=_;rw [EP (by omega),al];have kc:p≠[47]:=λe=>h0 (by rw [e];exact at_root kJ);have hup:=ON hp kc;have ZF:(eo s.L (bS p).1).2=0↔0<=mD (s.L.map (·.Path)) (bS p).1:=by rw [FN];unfold cu;rw [hup];by_cases h:0<=mD (s.L.map (·.Path)) (bS p).1<;>simp [h]
  by_cases h1:0<=mD (s.L.map (·.Path)) (bS p).1;rotate_left
  ·have he:eE s.L p value owner=6:=by unfold eE;rw [hp];simp only [if_true,h0,if_false,ZF,h1]
   rw [if_pos (by omega),he];rfl
  have dK:=FL h1;rw [c8] at dK;have hg:(eo s.L (bS p).1).1=s.L[(mD (s.L.map (·.Path)) (bS p).1).toNat]:=by
   have h0':=ZF.2 h1;rw [FN] at h0';obtain ⟨g1,g2,_⟩:=get_at h0';rw [g2];have:(cu s.L (bS p).1).1=mD (s.L.map (·.Path)) (bS p).1:=by unfold cu;rw [hup];simp [h1]
   simp only [this]
  rw [if_neg (by omega),wh h1 (by rw [fF];exact dK),qv dK];show (if !decide ((s.L[(mD (s.L.map (·.Path)) (bS p).1).toNat]).bF=0) then _ else _)=_;by_cases h2:(s.L[(mD (s.L.map (·.Path)) (bS p).1).toNat]).bF=0;rotate_left
  ·have he:eE s.L p value owner=10:=by unfold eE;rw [hp];simp only [if_true,h0,if_false,ZF,h1,hg,h2]
   rw [decide_eq_false h2,if_pos (by decide),he];rfl
  rw [decide_eq_true h2,if_neg (by decide),fF];by_cases h3:(1000:Int)<(value.length:Int)
  ·have he:eE s.L p value owner=5:=by unfold eE;rw [hp];simp only [if_true,h0,if_false,ZF,h1,hg,h2,h3]
   rw [if_pos h3,he];rfl
  rw [if_neg h3];by_cases h4:owner<0
  ·have he:eE s.L p value owner=1:=by unfold eE;rw [hp];simp only [if_true,h0,if_false,ZF,h1,hg,h2,h3,h4]
   rw [if_pos h4,he];rfl
  rw [if_neg h4];by_cases h5:(200:Int)<=(s.L.length:Int)
  ·have he:eE s.L p value owner=9:=by unfold eE;rw [hp];simp only [if_true,h0,if_false,ZF,h1,hg,h2,h3,h4,h5]
   rw [if_pos h5,he];rfl
  have he:eE s.L p value owner=0:=by unfold eE;rw [hp];simp only [if_true,h0,if_false,ZF,h1,hg,h2,h3,h4,h5]
  rw [if_neg h5,if_pos he];obtain ⟨i0,i1,i2,i3⟩:=EM hs (aE p);obtain ⟨e1,e2⟩:=Da (q:=Ys p) i1 i2 i3;have hah: ∀k (hk:k<s.L.length),kD p (s.L[k]).Path=decide (i0<=k):=by
   intro k hk;unfold kD;rw [hp,dY hs hk];simp only [Bool.true_and];by_cases O4:i0<=k
   ·rw [decide_eq_true O4];rcases VK (aE (s.L[k]).Path) (aE p) with h|h|h
    ·rw [i3 k hk O4] at h;cases h
    ·exact absurd (FK (cQ (dY hs hk)).2.1 (cQ hp).2.1 h) (abW h0 _ (IT hk))
    ·exact h
   ·rw [decide_eq_false O4];exact abN (i2 k hk (by omega))
  obtain ⟨n,hn⟩: ∃n:af,n=⟨p,value,0,owner⟩:=⟨_,rfl⟩
  have hnr:(⟨p,value,0,owner⟩:aY)=toR n:=by rw [hn]
  rw [hnr];have cV:Loop (pf (ch s) p value owner) (([]:List aY),false,0)=some ((A5 s.L i0 n s.L.length).map toR,decide (i0<s.L.length)):=by
   refine aM.eq (aM.count (λk=>((A5 s.L i0 n k).map toR,decide (i0<k),(k:Int))) s.L.length (λ_=>True) (by simp [A5]) trivial (λk hk _=> ?_) (λ_=> ?_))
   ·have hlk:=Rw (L:=s.L) (i0:=i0) (n:=n) (k:=k) (by omega);unfold pf;dsimp only;rw [hnr,fF,if_pos (by omega)];rcases Nat.lt_trichotomy k i0 with O4|O4|O4
    ·rw [decide_eq_false (show¬i0<k by omega),if_pos (by decide),aP (by rw [fF];exact hk),qv hk];simp only [toR_path];rw [AZ,al,hah k hk,decide_eq_false (show¬i0<=k by omega),al,if_neg (by decide),al];dsimp only;rw [aP (by rw [fF];exact hk),qv hk,if_pos (by simp only [c8,AI,AS];omega),wrap64 (by omega) (by omega)];refine .mk ⟨?_,trivial⟩;have:A5 s.L i0 n (k+1)=A5 s.L i0 n k++[s.L[k]]:=by unfold A5;rw [if_pos (by omega),if_pos (by omega),take_succ hk]
     rw [this,decide_eq_false (show¬i0<k+1 by omega),AT];rfl
    ·subst O4;rw [decide_eq_false (show¬k<k by omega),if_pos (by decide),aP (by rw [fF];exact hk),qv hk];simp only [toR_path];rw [AZ,al,hah k hk,decide_eq_true (OF k),al,if_pos rfl,if_pos (by simp only [c8,AI,AS];omega),al];dsimp only;rw [aP (by rw [fF];exact hk),qv hk,if_pos (by simp only [IS,c8,AI,AS];omega),wrap64 (by omega) (by omega)];refine .mk ⟨?_,trivial⟩;have:A5 s.L k n (k+1)=A5 s.L k n k++[n]++[s.L[k]]:=by unfold A5;rw [if_neg (by omega),if_pos (OF k),take_succ hk,No,BY (by rw [sh];omega),sh,aaa (by omega),Nat.sub_self];simp
     rw [this,decide_eq_true (show k<k+1 by omega),AT,AT];rfl
    ·rw [decide_eq_true O4,if_neg (by decide),al,if_neg (by decide),al];dsimp only;rw [aP (by rw [fF];exact hk),qv hk,if_pos (by simp only [c8,AI,AS];omega),wrap64 (by omega) (by omega)];refine .mk ⟨?_,trivial⟩;have:A5 s.L i0 n (k+1)=A5 s.L i0 n k++[s.L[k]]:=by unfold A5;rw [if_neg (by omega),if_neg (by omega),take_succ hk,No,sh,aaa (by omega),show i0-k=0 by omega];simp
     rw [this,decide_eq_true (show i0<k+1 by omega),AT];rfl
   ·unfold pf;dsimp only;rw [fF,if_neg (by omega)];exact .mk rfl
  rw [cV,al];dsimp only;have afb:He s.L n=if i0<s.L.length then A5 s.L i0 n s.L.length else A5 s.L i0 n s.L.length++[n]:=by
   unfold He A5;have hnp:n.Path=p:=by rw [hn]
   rw [hnp,<-e1,<-e2];by_cases h:i0<s.L.length
   ·rw [if_pos h,if_neg (by omega),By]
   ·rw [if_neg h,if_pos (by omega),By,List.take_of_length_le (by omega),BY (by omega)]
  have hlk:=Rw (L:=s.L) (i0:=i0) (n:=n) (k:=s.L.length) (OF _);rw [<-hn,afb];by_cases h:i0<s.L.length
  ·rw [decide_eq_true h,if_neg (by decide),al,if_pos h];rfl
  ·rw [decide_eq_false h,if_pos (by decide),if_pos (by simp only [c8,AI,AS];omega),al,if_neg h];unfold ch;rw [AT];rfl
theorem XP {s:aA}(kJ:fN s.L)(p value:List UInt8)(version:Int):DT (ch s) p value version=some (ch ⟨(xx s.L p value version).1⟩,(xx s.L p value version).2):=by
 have hl:=kJ.len;have hs:=kJ.ord;unfold DT xx Ua;rw [xw (by omega),al];dsimp only;rw [FN];by_cases h:(cu s.L p).2=0;rotate_left
 ·have hv:lL s.L p version=(cu s.L p).2:=by unfold lL;rw [if_neg (λh'=>h h'.1)]
  rw [decide_eq_false h,if_pos (by decide),hv];simp [h]
 obtain ⟨g2,hv,hpa,g1⟩:=get_at h;have hfl:=kJ.xC _ (IT g2);rw [<-hv] at hfl;rw [decide_eq_true h,if_neg (by decide)];by_cases h1:version≠ -1/\version≠(eo s.L p).1.Version
 ·have hv8:lL s.L p version=8:=by unfold lL;rw [if_pos ⟨h,h1⟩]
  rw [decide_eq_false h1.1,if_pos (by decide),al,decide_eq_false h1.2,if_pos (by decide),hv8];rfl
 ·have hw:(if !decide (version=(-1)) then some (!decide (version=(eo s.L p).1.Version)) else some false)=some false:=by
   by_cases h2:version= -1
   ·simp [h2]
   ·by_cases h3:version=(eo s.L p).1.Version
    ·simp [h3]
    ·exact absurd ⟨h2,h3⟩ h1
  have R7:lL s.L p version=0:=by unfold lL;rw [if_neg (λh'=>h1 h'.2)];exact h
  rw [hw,al,if_neg (by decide),if_pos R7];by_cases h3:(1000:Int)<(value.length:Int)
  ·simp [h3]
  ·rw [if_neg h3,if_neg h3];by_cases h4:(1000000000:Int)<=(eo s.L p).1.Version
   ·rw [if_pos (by omega),if_pos h4];rfl
   ·have Df:mD (s.L.map (·.Path)) p=(cu s.L p).1:=by
     unfold cu at h⊢;cases hp:bn p with
     |false=>rw [hp] at h;simp at h
     |true=>
      rw [hp] at h;by_cases h0:0<=mD (s.L.map (·.Path)) p
      ·simp [h0]
      ·simp [h0] at h
    have LC:=fF s;have S4:(cu s.L p).1.toNat<(ch s).L.length:=by rw [LC];exact g2
    rw [if_neg (by omega),if_neg h4,if_pos (by rw [LC];simp;omega),EP (by omega),al,Df,aaf,wh g1 S4];simp only [if_true];rw [wrap64 (by omega) (by omega)];unfold ch XM;rw [List.map_set,hpa]
theorem XQ {s:aA}(kJ:fN s.L)(p:List UInt8)(version:Int):tI (ch s) p version=some (ch ⟨(yZ s.L p version).1⟩,(yZ s.L p version).2):=by
 have hl:=kJ.len;have hs:=kJ.ord;unfold tI yZ Ub;rw [xw (by omega),al];dsimp only;rw [FN];by_cases hp:p=[47]
 ·have h:(cu s.L p).2=0:=by
   unfold cu;have:bn [47]=true:=by obtain ⟨m,hm,hr⟩:=kJ.root;rw [<-hr];exact hs.1 m hm
   rw [hp,this];simp [at_root kJ]
  rw [decide_eq_true h,if_neg (by decide),if_pos hp];simp [hp]
 by_cases h:(cu s.L p).2=0;rotate_left
 ·have hv:lL s.L p version=(cu s.L p).2:=by unfold lL;rw [if_neg (λh'=>h h'.1)]
  rw [decide_eq_false h,if_pos (by decide),hv];simp [h,hp]
 obtain ⟨g2,hv,hpa,g1⟩:=get_at h;rw [decide_eq_true h,if_neg (by decide),if_neg hp];by_cases h1:version≠ -1/\version≠(eo s.L p).1.Version
 ·have hv8:lL s.L p version=8:=by unfold lL;rw [if_pos ⟨h,h1⟩]
  rw [decide_eq_false h1.1,if_pos (by decide),al,decide_eq_false h1.2,if_pos (by decide),hv8,if_neg hp];rfl
 ·have hw:(if !decide (version=(-1)) then some (!decide (version=(eo s.L p).1.Version)) else some false)=some false:=by
   by_cases h2:version= -1
   ·simp [h2]
   ·by_cases h3:version=(eo s.L p).1.Version
    ·simp [h3]
    ·exact absurd ⟨h2,h3⟩ h1
  have R7:lL s.L p version=0:=by unfold lL;rw [if_neg (λh'=>h1 h'.2)];exact h
  rw [hw,al,if_neg (by decide),if_neg hp,if_pos R7,VN hs (by omega),al];by_cases hk:jE s.L p=[];rotate_left
  ·have:0<(jE s.L p).length:=List.length_pos_iff.2 hk;rw [if_pos (by omega),if_neg hk];rfl
  have Df:mD (s.L.map (·.Path)) p=(cu s.L p).1:=by
   unfold cu at h⊢;cases hp:bn p with
   |false=>rw [hp] at h;simp at h
   |true=>
    rw [hp] at h;by_cases h0:0<=mD (s.L.map (·.Path)) p
    ·simp [h0]
    ·simp [h0] at h
  obtain ⟨i,oQ⟩: ∃i:Nat,(cu s.L p).1=(i:Int):=⟨(cu s.L p).1.toNat,by omega⟩
  have vI:(cu s.L p).1.toNat=i:=by rw [oQ];rfl
  simp only [vI] at g2⊢;have LC:=fF s;rw [hk,if_neg (by decide),if_pos rfl,EP (by omega),al,Df,oQ,wrap64 (by omega) (by omega),show (i:Int)+1=((i+1:Nat):Int) by omega];rw [if_pos ⟨by omega,by omega,by omega⟩,if_pos (by simp;omega),if_pos ⟨by omega,by omega,by omega⟩,if_pos (by simp;omega)];unfold ch;simp only [if_true,aaf,Int.toNat_natCast,By,AT,List.map_take,List.map_drop];simp
theorem Uc (s:aA)(owner:Int)(hl:s.L.length<2^40):wZ (ch s) owner=some (ch ⟨(cH s.L owner).1⟩,(cH s.L owner).2):=by
 have cV:Loop (tK (ch s) owner) (([]:List aY),([]:List (List UInt8)),0)=some (((cH s.L owner).1).map toR,(cH s.L owner).2):=by
  refine aM.eq (aM.count (λk=>((cH (s.L.take k) owner).1.map toR,(cH (s.L.take k) owner).2,(k:Int))) s.L.length (λ_=>True) rfl trivial (λk hk _=> ?_) (λ_=> ?_))
  ·have l1:(cH (s.L.take k) owner).1.length<=k:=by unfold cH;have:=IN (pM owner) (s.L.take k);rw [sh] at this;dsimp only;omega
   have l2:(cH (s.L.take k) owner).2.length<=k:=by unfold cH;have:=IN (λn=>!pM owner n) (s.L.take k);rw [sh] at this;dsimp only;rw [c8];omega
   have e1:=vA (pM owner) hk;have e2:=vA (λn=>!pM owner n) hk;have KC:k<(ch s).L.length:=by rw [fF];exact hk
   unfold tK;dsimp only;rw [fF,if_pos (by omega),aP KC,aP KC,aP KC,qv hk];simp only [toR_path,toR_owner];have hw:(if (0:Int)<owner then some (decide ((s.L[k]).bF=owner)) else some false)=some (!pM owner s.L[k]):=by unfold pM;by_cases h:(0:Int)<owner<;>simp [h]
   rw [hw,al,wrap64 (by omega) (by omega)];cases eR:pM owner s.L[k] with
   |true=>rw [if_neg (by decide),if_pos (by simp only [c8,AI,AS];omega),al];rw [eR] at e1 e2;refine .mk ⟨?_,trivial⟩;unfold cH;rw [e1,e2];simp
   |false=>rw [if_pos (by decide),if_pos (by simp only [AI,AS];omega),al];rw [eR] at e1 e2;refine .mk ⟨?_,trivial⟩;unfold cH;rw [e1,e2];simp
  ·unfold tK;dsimp only;rw [fF,if_neg (by omega),By];exact .mk rfl
 unfold wZ;rw [cV];rfl
end Dn.S
