import Derived.Test.YtbkodohojpchjaaGreatDoorDnPShelf4
/-
  Shelves: kids; ShelfAsks. Conditions: none.
-/
set_option linter.unusedVariables false
set_option linter.unusedSimpArgs false
open List renaming length_map→c9,dropLast_eq_take→sh,getLast?_eq_some_getLast→AI,getLastD_eq_getLast?→AS,getLast_eq_getElem→By,length_take→BY,length_drop→IN,filter_eq_nil_iff→IS,mem_iff_getElem→IT,filter_append→No,getElem_drop→aaq,getElem_map→aaF,getElem_mem→aaJ,length_cons→aaK,length_nil→aaL
open Bool renaming eq_false_iff→AT,and_eq_true→aar
open Go.IntKind renaming wrap→OF
open Option renaming getD_some→aas
open Go Dn
namespace Dn.S
theorem TH {x p:List UInt8}(hx:bA x=true)(hp:bA p=true):((cy x).2=0/\(cy x).1=p)↔(jM (aH p) (aH x)=true/\(aH x).length=(aH p).length+1):=by
 obtain ⟨x1,x2,x3,x4⟩:=cR hx;obtain ⟨p1,p2,p3,p4⟩:=cR hp;unfold cy;rw [hx];by_cases h0:x=[47]
 ·have hn:(aH x).length=0:=(xj hx).2 h0;simp only [if_true,h0];constructor
  ·rintro ⟨h,_⟩;exact absurd h (by decide)
  ·rintro ⟨_,h⟩;rw [<-h0,hn] at h;omega
 ·have hn: ¬(aH x).length=0:=λe=>h0 ((xj hx).1 e);simp only [if_true,h0,if_false,true_and];have nm:(aH x).dropLast.all gV=true:=by rw [List.all_eq_true] at x4⊢;exact λy hy=>x4 y (List.mem_of_mem_take (by rw [sh] at hy;exact hy))
  obtain ⟨g1,g2,_⟩:=yM nm;constructor
  ·intro h;have hnp:aH p=(aH x).dropLast:=by rw [<-h,g1]
   unfold jM;rw [hnp,List.length_dropLast,sh];simp only [aar,decide_eq_true_eq];exact ⟨⟨by omega,trivial⟩,by omega⟩
  ·rintro ⟨hb,hlen⟩;unfold jM at hb;simp only [aar,decide_eq_true_eq] at hb;have:(aH x).dropLast=aH p:=by rw [sh,hlen,Nat.add_sub_cancel];exact hb.2.symm
   rw [this,CQ p2]
def zu (p:List UInt8)(n:ah):Bool:=decide ((cy n.Path).2=0/\(cy n.Path).1=p)
def GC (n:ah):List UInt8:=(aH n.Path).getLastD []
def jI (L:List ah)(p:List UInt8):List (List UInt8):=(L.filter (zu p)).map GC
theorem FH (L:List ah)(p:List UInt8):(jI L p).length<=L.length:=by unfold jI;rw [c9];exact List.length_filter_le _ _
theorem Kj {L:List ah}{p:List UInt8}{k:Nat}(hk:k<L.length):jI (L.take (k+1)) p=if zu p L[k] then jI (L.take k) p++[GC L[k]] else jI (L.take k) p:=by
 unfold jI;rw [take_succ hk,No,List.map_append];by_cases h:zu p L[k]=true
 ·simp [h]
 ·simp [h]
theorem aeS {α R:Type}{l:List α}(h:l≠[])(hl:l.length<2^60)(d:α)(K:α->Option R):ix l (OF .i64 ((l.length:Int)-1)) K=K (l.getLastD d):=by have fm:0<l.length:=List.length_pos_iff.2 h;rw [wrap64 (by omega) (by omega),show (l.length:Int)-1=((l.length-1:Nat):Int) by omega,ba (by omega)];rw [AS,AI h,aas,By]
theorem Vy {s:aD}(hs:od s.L)(hl:s.L.length<2^40)(p:List UInt8):wM (dp s) p=some (jI s.L p):=by
 have hlen:(dp s).L.length=s.L.length:=c9 ..;have cw:Loop (tG (dp s) p) (([]:List (List UInt8)),0)=some (jI s.L p):=by
  refine aO.eq (aO.count (λk=>(jI (s.L.take k) p,(k:Int))) s.L.length (λ_=>True) rfl trivial (λk hk _=> ?_) (λ_=> ?_))
  ·have O9:k<(dp s).L.length:=by rw [hlen];exact hk
   have na:(dp s).L[k]=toR s.L[k]:=aaF ..;have hr:=hs.1 _ (aaJ hk);have hkl:=FH (s.L.take k) p;rw [BY] at hkl;unfold tG;dsimp only;rw [if_pos (by omega),ba O9,na];simp only [toR_path];rw [yL,av];have hw:(if (cy (s.L[k]).Path).2=0 then some (decide ((cy (s.L[k]).Path).1=p)) else some false)=some (zu p s.L[k]):=by unfold zu;by_cases h:(cy (s.L[k]).Path).2=0<;>simp [h]
   show aO (bd (if (cy (s.L[k]).Path).2=0 then some (decide ((cy (s.L[k]).Path).1=p)) else some false) _) _;rw [hw,av,wrap64 (by omega) (by omega)];have hsu:=Kj (p:=p) hk;cases hkb:zu p s.L[k] with
   |false=>rw [if_neg (by decide),av];rw [hkb,if_neg (by decide)] at hsu;exact .mk ⟨by rw [hsu];rfl,trivial⟩
   |true=>
    rw [hkb,if_pos rfl] at hsu;have dG:aH (s.L[k]).Path≠[]:=by intro e;have h0:=(xj hr).1 (by rw [e];rfl);unfold zu cy at hkb;rw [hr,h0] at hkb;simp at hkb
    have h8:=(cR hr).2.2.1;rw [if_pos rfl,ba O9,na];simp only [toR_path];rw [vv,av,hr];simp only [if_true];rw [aeS dG (by omega) []];rw [if_pos (by simp only [aaK,aaL];omega),av];exact .mk ⟨by rw [hsu];rfl,trivial⟩
  ·unfold tG;dsimp only;rw [hlen,if_neg (by omega),List.take_length];exact .mk rfl
 unfold wM;rw [cw];rfl
theorem xk {p:List UInt8}{n:ah}(hn:bA n.Path=true)(hp:bA p=true):zu p n=true↔(jM (aH p) (aH n.Path)=true/\(aH n.Path).length=(aH p).length+1):=by unfold zu;rw [decide_eq_true_eq];exact TH hn hp
theorem Kk {L:List ah}(hs:od L){i j:Nat}(hi:i<L.length)(hj:j<L.length)(h:i<j):oc (aH (L[i]).Path) (aH (L[j]).Path)=true:=List.pairwise_iff_getElem.1 hs.2 i j hi hj h
theorem gX {L:List ah}(hs:od L){i:Nat}(hi:i<L.length):bA (L[i]).Path=true:=hs.1 _ (aaJ hi)
theorem Xl {L:List ah}(hs:od L){p:List UInt8}{i:Nat}(hi:i<L.length)(hp:(L[i]).Path=p){j:Nat}(hj:j<L.length)(X3:j<=i):zu p L[j]=false:=by
 rw [AT];intro h;have Ic:bA p=true:=by rw [<-hp];exact gX hs hi
 have h1:=aby ((xk (gX hs hj) Ic).1 h).1;by_cases he:j=i
 ·subst he;rw [hp,Bw] at h1;cases h1
 ·have h2:=Kk hs hj hi (by omega);rw [hp] at h2;have:=FF h1 h2;rw [Bw] at this;cases this
theorem CR {L:List ah}(hs:od L){p:List UInt8}{i:Nat}(hi:i<L.length)(hp:(L[i]).Path=p):jI (L.take (i+1)) p=[]:=by unfold jI;rw [List.map_eq_nil_iff,IS];intro n hn;obtain ⟨j,hj,rfl⟩:=IT.1 hn;rw [BY] at hj;rw [List.getElem_take];rw [Xl hs hi hp (by omega) (by omega)];simp
theorem Xm {L:List ah}(hs:od L){p:List UInt8}{i k:Nat}(hi:i<L.length)(hp:(L[i]).Path=p)(hk:k<L.length)(hik:i<k)(hb:sa p (L[k]).Path=false){j:Nat}(hj:j<L.length)(hkj:k<=j): sa p (L[j]).Path=false:=by
 rw [AT];intro h;have Ic:bA p=true:=by rw [<-hp];exact gX hs hi
 unfold sa at h hb;rw [Ic,gX hs hj] at h;rw [Ic,gX hs hk] at hb;simp only [Bool.true_and] at h hb;by_cases he:j=k
 ·subst he;rw [h] at hb;cases hb
 ·have h1:=Kk hs hi hk hik;rw [hp] at h1;have:=aeP h1 (Kk hs hk hj (by omega)) h;rw [this] at hb;cases hb
theorem Rm {L:List ah}(hs:od L){p:List UInt8}{i k:Nat}(hi:i<L.length)(hp:(L[i]).Path=p)(hk:k<L.length)(hik:i<k)(hb:sa p (L[k]).Path=false):jI (L.take k) p=jI L p:=by
 have Ic:bA p=true:=by rw [<-hp];exact gX hs hi
 have:(L.drop k).filter (zu p)=[]:=by rw [IS];intro n hn aeV;obtain ⟨j,hj,rfl⟩:=IT.1 hn;rw [IN] at hj;rw [aaq] at aeV;have h1:=Xm hs hi hp hk hik hb (j:=k+j) (by omega) (by omega);have h2:=((xk (gX hs (by omega)) Ic).1 aeV).1;unfold sa at h1;rw [Ic,gX hs (by omega),h2] at h1;simp at h1
 unfold jI;conv=>rhs;rw [<-List.take_append_drop k L]
 rw [No,this,List.append_nil]
theorem OI {L:List ah}{p:List UInt8}(h:(cr L p).2=0):bA p=true/\ ∃i,∃hi:i<L.length,(cr L p).1=(i:Int)/\(L[i]).Path=p:=by
 unfold cr at h⊢;cases hp:bA p with
 |false=>rw [hp] at h;simp at h
 |true=>
  rw [hp] at h;by_cases h0:0<=rN (L.map (·.Path)) p
  ·simp only [if_true,h0];refine ⟨trivial,?_⟩;unfold rN at h0⊢;cases hf:(L.map (·.Path)).findIdx? (λx=>decide (x=p)) with
   |none=>rw [hf] at h0;simp at h0
   |some k=>have Up:=hf;rw [List.findIdx?_eq_some_iff_getElem] at Up;obtain ⟨hk,hd,_⟩:=Up;exact ⟨k,by simpa using hk,rfl,by simpa using hd⟩
  ·simp [h0] at h
def nD (L:List ah)(p:List UInt8):List (List UInt8)×Int:=if (cr L p).2=0 then (jI L p,0) else ([],(cr L p).2)
theorem AK {l:List (List UInt8)}{n:Nat}(h:l.length=n+1):l.getLastD []=l[n]'(by omega):=by
 have dG:l≠[]:=by intro e;rw [e] at h;simp at h
 rw [AS,AI dG,aas,By];congr 1;omega
theorem aeW {s:aD}(hs:od s.L)(hl:s.L.length<2^40)(p:List UInt8):tt s p=some (nD s.L p):=by
 unfold tt nD;rw [find_eq hs hl,av];by_cases h:(cr s.L p).2=0;rotate_left
 ·rw [decide_eq_false h,if_pos (by decide),if_neg h]
 obtain ⟨hp,i,hi,hfi,hip⟩:=OI h;obtain ⟨_,_,hp8,_⟩:=cR hp;have hw:OF .i64 ((cr s.L p).1+1)=((i+1:Nat):Int):=by rw [hfi,wrap64 (by omega) (by omega)];omega
 rw [decide_eq_true h,if_neg (by decide),Rf,av,hp,hw,if_pos (by omega),if_pos h];simp only [if_true];have hD:List.drop (Int.toNat (OF .i64 ((cr s.L p).1+1))) (List.take (Int.toNat (s.L.length:Int)) s.L)=s.L.drop (i+1):=by rw [hw];simp
 have cw:Loop (o7 s p (cr s.L p) (aH p,0)) (([]:List (List UInt8)),0)=some (jI s.L p):=by
  refine aO.eq (aO.count (λk=>(jI (s.L.take (i+1+k)) p,(k:Int))) (s.L.length-(i+1)) (λ_=>True) (by rw [Nat.add_zero,CR hs hi hip];rfl) trivial (λk hk _=> ?_) (λ_=> ?_))
  ·have O4:i+1+k<s.L.length:=by omega
   have hr:=gX hs O4;have hkl:=FH (s.L.take (i+1+k)) p;rw [BY] at hkl;unfold o7;rw [hD];dsimp only;have hkd:k<(s.L.drop (i+1)).length:=by rw [IN];omega
   rw [if_pos (by omega),ba hkd,aaq,Ri,av];cases hb:sa p (s.L[i+1+k]).Path with
   |false=>rw [if_pos (by decide)];exact .mk (Rm hs hi hip O4 (by omega) hb)
   |true=>
    rw [if_neg (by decide),Rf,av,hr];simp only [if_true];obtain ⟨_,_,hr8,_⟩:=cR hr;rw [wrap64 (x:=((aH p).length:Int)+1) (by omega) (by omega),wrap64 (by omega) (by omega)];have hsu:=Kj (p:=p) O4;have hkb:=xk (n:=s.L[i+1+k]) hr hp;have Sv:jM (aH p) (aH (s.L[i+1+k]).Path)=true:=by unfold sa at hb;rw [hp,hr] at hb;simpa using hb
    by_cases hlen:(aH (s.L[i+1+k]).Path).length=(aH p).length+1
    ·rw [if_pos (by omega),ba (by omega),if_pos (by simp only [aaK,aaL];omega),av];rw [hkb.2 ⟨Sv,hlen⟩,if_pos rfl] at hsu;refine .mk ⟨?_,trivial⟩;rw [show i+1+(k+1)=i+1+k+1 by omega,hsu];unfold GC;rw [AK hlen];rfl
    ·rw [if_neg (by omega),av];have:zu p s.L[i+1+k]=false:=by rw [AT];intro hh;exact hlen (hkb.1 hh).2
     rw [this,if_neg (by decide)] at hsu;refine .mk ⟨?_,trivial⟩;rw [show i+1+(k+1)=i+1+k+1 by omega,hsu];rfl
  ·unfold o7;rw [hD];dsimp only;rw [IN,if_neg (by omega)];refine .mk ?_;show jI (s.L.take (i+1+(s.L.length-(i+1)))) p=_;rw [List.take_of_length_le (by omega)]
 rw [cw,av]
theorem xl {s:aD}(hl:s.L.length<2^40)(p:List UInt8):sL (dp s) p=some (toR (en s.L p).1,(en s.L p).2):=by
 have sE:(dp s).L.length<2^40:=by show (s.L.map toR).length<_;rw [c9];exact hl
 unfold sL en cr;rw [rM,av];cases hp:bA p with
 |false=>rfl
 |true=>
  rw [agy _ _ sE,av];have hpp:(dp s).L.map (·.Path)=s.L.map (·.Path):=GB s.L;rw [hpp];simp only [Bool.not_true,Bool.false_eq_true,if_false,if_true];by_cases h0:0<=rN (s.L.map (·.Path)) p
  ·have dY:=OE h0;rw [c9] at dY;rw [if_neg (by omega)];simp only [h0,if_true];have aqf:(rN (s.L.map (·.Path)) p).toNat<(dp s).L.length:=by show _<(s.L.map toR).length;rw [c9];exact dY
   rw [yJ h0 aqf,List.getElem?_eq_getElem dY];have hg:(dp s).L[(rN (s.L.map (·.Path)) p).toNat]=toR s.L[(rN (s.L.map (·.Path)) p).toNat]:=aaF ..;rw [hg];rfl
  ·rw [if_pos (by omega)];simp only [h0,if_false];rfl
theorem FI (L:List ah)(p:List UInt8):(en L p).2=(cr L p).2:=by unfold en;by_cases h:(cr L p).2=0<;>simp [h]
theorem TJ {s:aD}(hs:od s.L)(hl:s.L.length<2^40)(p:List UInt8):Aa (dp s) p=some (nD s.L p):=by
 unfold Aa nD;rw [xl hl,av];show (if !decide ((en s.L p).2=0) then _ else _)=_;rw [FI];by_cases h:(cr s.L p).2=0
 ·rw [decide_eq_true h,if_neg (by decide),Vy hs hl,av,if_pos h]
 ·rw [decide_eq_false h,if_pos (by decide),if_neg h]
theorem Xn (L:List ah)(p:List UInt8):(nD L p).1.length<=L.length:=by
 unfold nD;by_cases h:(cr L p).2=0
 ·simp only [h,if_true];exact FH L p
 ·simp [h]
end Dn.S
