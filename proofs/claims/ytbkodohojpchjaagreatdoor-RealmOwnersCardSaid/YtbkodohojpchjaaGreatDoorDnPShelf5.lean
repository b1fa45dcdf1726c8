import Derived.Test.YtbkodohojpchjaaGreatDoorDnPShelf4
/-
  Shelves: kids; ShelfAsks. Conditions: none.
-/
open Go Dn
set_option linter.unusedVariables false
set_option linter.unusedSimpArgs false
namespace Dn.S
theorem MF {x p:List UInt8} (hx:bw x=true) (hp:bw p=true):((cK x).2=0∧(cK x).1=p)↔(iX (aP p) (aP x)=true∧(aP x).length=(aP p).length+1):=by
 obtain ⟨x1,x2,x3,x4⟩:=ga hx
 obtain ⟨p1,p2,p3,p4⟩:=ga hp
 unfold cK
 rw [hx]
 by_cases h0:x=[47]
 ·have hn:(aP x).length=0:=(Hf hx).2 h0
  simp only [if_true,h0]
  constructor
  ·rintro ⟨h,_⟩;exact absurd h (by decide)
  ·rintro ⟨_,h⟩;rw [←h0,hn] at h;omega
 ·have hn: ¬(aP x).length=0:=fun e=>h0 ((Hf hx).1 e)
  simp only [if_true,h0,if_false,true_and]
  have pL:(aP x).dropLast.all o6=true:=by
   rw [List.all_eq_true] at x4⊢
   exact fun y hy=>x4 y (List.mem_of_mem_take (by rw [List.dropLast_eq_take] at hy;exact hy))
  obtain ⟨g1,g2,_⟩:=EM pL
  constructor
  ·intro h
   have W6:aP p=(aP x).dropLast:=by rw [←h,g1]
   unfold iX
   rw [W6,List.length_dropLast,List.dropLast_eq_take]
   simp only [Bool.and_eq_true,decide_eq_true_eq]
   exact ⟨⟨by omega,trivial⟩,by omega⟩
  ·rintro ⟨hb,hlen⟩
   unfold iX at hb
   simp only [Bool.and_eq_true,decide_eq_true_eq] at hb
   have:(aP x).dropLast=aP p:=by
    rw [List.dropLast_eq_take,hlen,Nat.add_sub_cancel]
    exact hb.2.symm
   rw [this,yT p2]
def A3 (p:List UInt8) (n:ae):Bool:=decide ((cK n.Path).2=0∧(cK n.Path).1=p)
def Tr (n:ae):List UInt8:=(aP n.Path).getLastD []
def kM (L:List ae) (p:List UInt8):List (List UInt8):=(L.filter (A3 p)).map Tr
theorem PS (L:List ae) (p:List UInt8):(kM L p).length≤L.length:=by
 unfold kM;rw [List.length_map];exact List.length_filter_le _ _
theorem MG {L:List ae} {p:List UInt8} {k:Nat} (hk:k<L.length):kM (L.take (k+1)) p=if A3 p L[k] then kM (L.take k) p++[Tr L[k]] else kM (L.take k) p:=by
 unfold kM
 rw [take_succ hk,List.filter_append,List.map_append]
 by_cases h:A3 p L[k]=true
 ·simp [h]
 ·simp [h]
theorem xu {p:List UInt8} {n:ae} (hn:bw n.Path=true) (hp:bw p=true):A3 p n=true↔(iX (aP p) (aP n.Path)=true∧(aP n.Path).length=(aP p).length+1):=by
 unfold A3
 rw [decide_eq_true_eq]
 exact MF hn hp
theorem yV {L:List ae} (hs:nB L) {i j:Nat} (hi:i<L.length) (hj:j<L.length) (h:i<j):o8 (aP (L[i]).Path) (aP (L[j]).Path)=true:=List.pairwise_iff_getElem.1 hs.2 i j hi hj h
theorem dr {L:List ae} (hs:nB L) {i:Nat} (hi:i<L.length):bw (L[i]).Path=true:=hs.1 _ (List.getElem_mem hi)
theorem PT {L:List ae} (hs:nB L) {p:List UInt8} {i:Nat} (hi:i<L.length) (hp:(L[i]).Path=p) {j:Nat} (hj:j<L.length) (Qw:j≤i):A3 p L[j]=false:=by
 rw [Bool.eq_false_iff]
 intro h
 have CW:bw p=true:=by rw [←hp];exact dr hs hi
 have h1:=Tl ((xu (dr hs hj) CW).1 h).1
 by_cases he:j=i
 ·subst he
  rw [hp,zY] at h1;cases h1
 ·have h2:=yV hs hj hi (by omega)
  rw [hp] at h2
  have:=A0 h1 h2
  rw [zY] at this;cases this
theorem yW {L:List ae} (hs:nB L) {p:List UInt8} {i:Nat} (hi:i<L.length) (hp:(L[i]).Path=p):kM (L.take (i+1)) p=[]:=by
 unfold kM
 rw [List.map_eq_nil_iff,List.filter_eq_nil_iff]
 intro n hn
 obtain ⟨j,hj,rfl⟩:=List.mem_iff_getElem.1 hn
 rw [List.length_take] at hj
 rw [List.getElem_take]
 rw [PT hs hi hp (by omega) (by omega)]
 simp
theorem PU {L:List ae} (hs:nB L) {p:List UInt8} {i k:Nat} (hi:i<L.length) (hp:(L[i]).Path=p) (hk:k<L.length) (hik:i<k) (hb:pC p (L[k]).Path=false) {j:Nat} (hj:j<L.length) (hkj:k≤j):
 pC p (L[j]).Path=false:=by
 rw [Bool.eq_false_iff]
 intro h
 have CW:bw p=true:=by rw [←hp];exact dr hs hi
 unfold pC at h hb
 rw [CW,dr hs hj] at h
 rw [CW,dr hs hk] at hb
 simp only [Bool.true_and] at h hb
 by_cases he:j=k
 ·subst he;rw [h] at hb;cases hb
 ·have h1:=yV hs hi hk hik
  rw [hp] at h1
  have:=Wd h1 (yV hs hk hj (by omega)) h
  rw [this] at hb;cases hb
theorem KH {L:List ae} (hs:nB L) {p:List UInt8} {i k:Nat} (hi:i<L.length) (hp:(L[i]).Path=p) (hk:k<L.length) (hik:i<k) (hb:pC p (L[k]).Path=false):kM (L.take k) p=kM L p:=by
 have CW:bw p=true:=by rw [←hp];exact dr hs hi
 have:(L.drop k).filter (A3 p)=[]:=by
  rw [List.filter_eq_nil_iff]
  intro n hn Wf
  obtain ⟨j,hj,rfl⟩:=List.mem_iff_getElem.1 hn
  rw [List.length_drop] at hj
  rw [List.getElem_drop] at Wf
  have h1:=PU hs hi hp hk hik hb (j:=k+j) (by omega) (by omega)
  have h2:=((xu (dr hs (by omega)) CW).1 Wf).1
  unfold pC at h1
  rw [CW,dr hs (by omega),h2] at h1
  simp at h1
 unfold kM
 conv=>rhs;rw [←List.take_append_drop k L]
 rw [List.filter_append,this,List.append_nil]
theorem IG {L:List ae} {p:List UInt8} (h:(cG L p).2=0):bw p=true∧ ∃i,∃hi:i<L.length,(cG L p).1=(i:Int)∧(L[i]).Path=p:=by
 unfold cG at h⊢
 cases hp:bw p with
 |false=>rw [hp] at h;simp at h
 |true=>
  rw [hp] at h
  by_cases h0:0≤tH (L.map (·.Path)) p
  ·simp only [if_true,h0]
   refine ⟨trivial,?_⟩
   unfold tH at h0⊢
   cases hf:(L.map (·.Path)).findIdx? (fun x=>decide (x=p)) with
   |none=>rw [hf] at h0;simp at h0
   |some k=>
    have M9:=hf
    rw [List.findIdx?_eq_some_iff_getElem] at M9
    obtain ⟨hk,hd,_⟩:=M9
    exact ⟨k,by simpa using hk,rfl,by simpa using hd⟩
  ·simp [h0] at h
def N4 (L:List ae) (p:List UInt8):List (List UInt8)×Int:=if (cG L p).2=0 then (kM L p,0) else ([],(cG L p).2)
theorem KI {l:List (List UInt8)} {n:Nat} (h:l.length=n+1):l.getLastD []=l[n]'(by omega):=by
 have cI:l≠[]:=by intro e;rw [e] at h;simp at h
 rw [List.getLastD_eq_getLast?,List.getLast?_eq_some_getLast cI,Option.getD_some,List.getLast_eq_getElem]
 congr 1;omega
theorem Wg {s:av} (hs:nB s.L) (hl:s.L.length<2^40) (p:List UInt8):qv s p=some (N4 s.L p):=by
 unfold qv N4
 rw [find_eq hs hl,aM]
 by_cases h:(cG s.L p).2=0
 rotate_left
 ·rw [decide_eq_false h,if_pos (by decide),if_neg h]
 obtain ⟨hp,i,hi,Ry,hip⟩:=IG h
 obtain ⟨_,_,hp8,_⟩:=ga hp
 have hw:IntKind.wrap .i64 ((cG s.L p).1+1)=((i+1:Nat):Int):=by rw [Ry,wrap64 (by omega) (by omega)];omega
 rw [decide_eq_true h,if_neg (by decide),KA,aM,hp,hw,if_pos (by omega),if_pos h]
 simp only [if_true]
 have hD:List.drop (Int.toNat (IntKind.wrap .i64 ((cG s.L p).1+1))) (List.take (Int.toNat (s.L.length:Int)) s.L)=s.L.drop (i+1):=by
  rw [hw];simp
 have fZ:Loop (mZ s p (cG s.L p) (aP p,0)) (([]:List (List UInt8)),0)=some (kM s.L p):=by
  refine bK.eq (bK.count (fun k=>(kM (s.L.take (i+1+k)) p,(k:Int))) (s.L.length-(i+1)) (fun _=>True) (by rw [Nat.add_zero,yW hs hi hip];rfl) trivial (fun k hk _=> ?_) (fun _=> ?_))
  ·have Vd:i+1+k<s.L.length:=by omega
   have hr:=dr hs Vd
   have hkl:=PS (s.L.take (i+1+k)) p
   rw [List.length_take] at hkl
   unfold mZ
   rw [hD]
   dsimp only
   have hkd:k<(s.L.drop (i+1)).length:=by rw [List.length_drop];omega
   rw [if_pos (by omega),cg hkd,List.getElem_drop,KE,aM]
   cases hb:pC p (s.L[i+1+k]).Path with
   |false=>
    rw [if_pos (by decide)]
    exact .mk (KH hs hi hip Vd (by omega) hb)
   |true=>
    rw [if_neg (by decide),KA,aM,hr]
    simp only [if_true]
    obtain ⟨_,_,hr8,_⟩:=ga hr
    rw [wrap64 (x:=((aP p).length:Int)+1) (by omega) (by omega),wrap64 (by omega) (by omega)]
    have hsu:=MG (p:=p) Vd
    have hkb:=xu (n:=s.L[i+1+k]) hr hp
    have LF:iX (aP p) (aP (s.L[i+1+k]).Path)=true:=by
     unfold pC at hb
     rw [hp,hr] at hb
     simpa using hb
    by_cases hlen:(aP (s.L[i+1+k]).Path).length=(aP p).length+1
    ·rw [if_pos (by omega),cg (by omega),if_pos (by simp only [List.length_cons,List.length_nil];omega),aM]
     rw [hkb.2 ⟨LF,hlen⟩,if_pos rfl] at hsu
     refine .mk ⟨?_,trivial⟩
     rw [show i+1+(k+1)=i+1+k+1 by omega,hsu]
     unfold Tr
     rw [KI hlen];rfl
    ·rw [if_neg (by omega),aM]
     have:A3 p s.L[i+1+k]=false:=by
      rw [Bool.eq_false_iff];intro hh;exact hlen (hkb.1 hh).2
     rw [this,if_neg (by decide)] at hsu
     refine .mk ⟨?_,trivial⟩
     rw [show i+1+(k+1)=i+1+k+1 by omega,hsu];rfl
  ·unfold mZ
   rw [hD]
   dsimp only
   rw [List.length_drop,if_neg (by omega)]
   refine .mk ?_
   show kM (s.L.take (i+1+(s.L.length-(i+1)))) p=_
   rw [List.take_of_length_le (by omega)]
 rw [fZ,aM]
theorem ZE (L:List ae) (p:List UInt8):(jO L p).2=(cG L p).2:=by
 unfold jO
 by_cases h:(cG L p).2=0<;>simp [h]
end Dn.S
