import Derived.Test.YtbkodohojpchjaaGreatDoorDnPShelf4
/-
  Shelves: kids; ShelfAsks. Conditions: none.
-/
open Go Dn
set_option linter.unusedVariables false
set_option linter.unusedSimpArgs false
namespace Dn.S
theorem OY {x p:List UInt8} (hx:bk x=true) (hp:bk p=true):((cJ x).2=0∧(cJ x).1=p)↔(ji (aL p) (aL x)=true∧(aL x).length=(aL p).length+1):=by
 obtain ⟨x1,x2,x3,x4⟩:=dU hx
 obtain ⟨p1,p2,p3,p4⟩:=dU hp
 unfold cJ
 rw [hx]
 by_cases h0:x=[47]
 ·have hn:(aL x).length=0:=(yB hx).2 h0
  simp only [if_true,h0]
  constructor
  ·rintro ⟨h,_⟩;exact absurd h (by decide)
  ·rintro ⟨_,h⟩;rw [←h0,hn] at h;omega
 ·have hn: ¬(aL x).length=0:=fun e=>h0 ((yB hx).1 e)
  simp only [if_true,h0,if_false,true_and]
  have ni:(aL x).dropLast.all j6=true:=by
   rw [List.all_eq_true] at x4⊢
   exact fun y hy=>x4 y (List.mem_of_mem_take (by rw [List.dropLast_eq_take] at hy;exact hy))
  obtain ⟨g1,g2,_⟩:=Gz ni
  constructor
  ·intro h
   have ZT:aL p=(aL x).dropLast:=by rw [←h,g1]
   unfold ji
   rw [ZT,List.length_dropLast,List.dropLast_eq_take]
   simp only [Bool.and_eq_true,decide_eq_true_eq]
   exact ⟨⟨by omega,trivial⟩,by omega⟩
  ·rintro ⟨hb,hlen⟩
   unfold ji at hb
   simp only [Bool.and_eq_true,decide_eq_true_eq] at hb
   have:(aL x).dropLast=aL p:=by
    rw [List.dropLast_eq_take,hlen,Nat.add_sub_cancel]
    exact hb.2.symm
   rw [this,z1 p2]
def Cq (p:List UInt8) (n:ae):Bool:=decide ((cJ n.Path).2=0∧(cJ n.Path).1=p)
def V3 (n:ae):List UInt8:=(aL n.Path).getLastD []
def lg (L:List ae) (p:List UInt8):List (List UInt8):=(L.filter (Cq p)).map V3
theorem Sg (L:List ae) (p:List UInt8):(lg L p).length≤L.length:=by
 unfold lg;rw [List.length_map];exact List.length_filter_le _ _
theorem OZ {L:List ae} {p:List UInt8} {k:Nat} (hk:k<L.length):lg (L.take (k+1)) p=if Cq p L[k] then lg (L.take k) p++[V3 L[k]] else lg (L.take k) p:=by
 unfold lg
 rw [take_succ hk,List.filter_append,List.map_append]
 by_cases h:Cq p L[k]=true
 ·simp [h]
 ·simp [h]
theorem yD {p:List UInt8} {n:ae} (hn:bk n.Path=true) (hp:bk p=true):Cq p n=true↔(ji (aL p) (aL n.Path)=true∧(aL n.Path).length=(aL p).length+1):=by
 unfold Cq
 rw [decide_eq_true_eq]
 exact OY hn hp
theorem z6 {L:List ae} (hs:nl L) {i j:Nat} (hi:i<L.length) (hj:j<L.length) (h:i<j):mU (aL (L[i]).Path) (aL (L[j]).Path)=true:=List.pairwise_iff_getElem.1 hs.2 i j hi hj h
theorem dJ {L:List ae} (hs:nl L) {i:Nat} (hi:i<L.length):bk (L[i]).Path=true:=hs.1 _ (List.getElem_mem hi)
theorem Sh {L:List ae} (hs:nl L) {p:List UInt8} {i:Nat} (hi:i<L.length) (hp:(L[i]).Path=p) {j:Nat} (hj:j<L.length) (SS:j≤i):Cq p L[j]=false:=by
 rw [Bool.eq_false_iff]
 intro h
 have Dr:bk p=true:=by rw [←hp];exact dJ hs hi
 have h1:=VY ((yD (dJ hs hj) Dr).1 h).1
 by_cases he:j=i
 ·subst he
  rw [hp,Bo] at h1;cases h1
 ·have h2:=z6 hs hj hi (by omega)
  rw [hp] at h2
  have:=Cp h1 h2
  rw [Bo] at this;cases this
theorem z7 {L:List ae} (hs:nl L) {p:List UInt8} {i:Nat} (hi:i<L.length) (hp:(L[i]).Path=p):lg (L.take (i+1)) p=[]:=by
 unfold lg
 rw [List.map_eq_nil_iff,List.filter_eq_nil_iff]
 intro n hn
 obtain ⟨j,hj,rfl⟩:=List.mem_iff_getElem.1 hn
 rw [List.length_take] at hj
 rw [List.getElem_take]
 rw [Sh hs hi hp (by omega) (by omega)]
 simp
theorem Si {L:List ae} (hs:nl L) {p:List UInt8} {i k:Nat} (hi:i<L.length) (hp:(L[i]).Path=p) (hk:k<L.length) (hik:i<k) (hb:pZ p (L[k]).Path=false) {j:Nat} (hj:j<L.length) (hkj:k≤j):
 pZ p (L[j]).Path=false:=by
 rw [Bool.eq_false_iff]
 intro h
 have Dr:bk p=true:=by rw [←hp];exact dJ hs hi
 unfold pZ at h hb
 rw [Dr,dJ hs hj] at h
 rw [Dr,dJ hs hk] at hb
 simp only [Bool.true_and] at h hb
 by_cases he:j=k
 ·subst he;rw [h] at hb;cases hb
 ·have h1:=z6 hs hi hk hik
  rw [hp] at h1
  have:=Y0 h1 (z6 hs hk hj (by omega)) h
  rw [this] at hb;cases hb
theorem MD {L:List ae} (hs:nl L) {p:List UInt8} {i k:Nat} (hi:i<L.length) (hp:(L[i]).Path=p) (hk:k<L.length) (hik:i<k) (hb:pZ p (L[k]).Path=false):lg (L.take k) p=lg L p:=by
 have Dr:bk p=true:=by rw [←hp];exact dJ hs hi
 have:(L.drop k).filter (Cq p)=[]:=by
  rw [List.filter_eq_nil_iff]
  intro n hn Y2
  obtain ⟨j,hj,rfl⟩:=List.mem_iff_getElem.1 hn
  rw [List.length_drop] at hj
  rw [List.getElem_drop] at Y2
  have h1:=Si hs hi hp hk hik hb (j:=k+j) (by omega) (by omega)
  have h2:=((yD (dJ hs (by omega)) Dr).1 Y2).1
  unfold pZ at h1
  rw [Dr,dJ hs (by omega),h2] at h1
  simp at h1
 unfold lg
 conv=>rhs;rw [←List.take_append_drop k L]
 rw [List.filter_append,this,List.append_nil]
theorem KC {L:List ae} {p:List UInt8} (h:(cg L p).2=0):bk p=true∧ ∃i,∃hi:i<L.length,(cg L p).1=(i:Int)∧(L[i]).Path=p:=by
 unfold cg at h⊢
 cases hp:bk p with
 |false=>rw [hp] at h;simp at h
 |true=>
  rw [hp] at h
  by_cases h0:0≤pJ (L.map (·.Path)) p
  ·simp only [if_true,h0]
   refine ⟨trivial,?_⟩
   unfold pJ at h0⊢
   cases hf:(L.map (·.Path)).findIdx? (fun x=>decide (x=p)) with
   |none=>rw [hf] at h0;simp at h0
   |some k=>
    have Pq:=hf
    rw [List.findIdx?_eq_some_iff_getElem] at Pq
    obtain ⟨hk,hd,_⟩:=Pq
    exact ⟨k,by simpa using hk,rfl,by simpa using hd⟩
  ·simp [h0] at h
def Qj (L:List ae) (p:List UInt8):List (List UInt8)×Int:=if (cg L p).2=0 then (lg L p,0) else ([],(cg L p).2)
theorem MF {l:List (List UInt8)} {n:Nat} (h:l.length=n+1):l.getLastD []=l[n]'(by omega):=by
 have cT:l≠[]:=by intro e;rw [e] at h;simp at h
 rw [List.getLastD_eq_getLast?,List.getLast?_eq_some_getLast cT,Option.getD_some,List.getLast_eq_getElem]
 congr 1;omega
theorem Y3 {s:ay} (hs:nl s.L) (hl:s.L.length<2^40) (p:List UInt8):ra s p=some (Qj s.L p):=by
 unfold ra Qj
 rw [find_eq hs hl,aC]
 by_cases h:(cg s.L p).2=0
 rotate_left
 ·rw [decide_eq_false h,if_pos (by decide),if_neg h]
 obtain ⟨hp,i,hi,T0,hip⟩:=KC h
 obtain ⟨_,_,hp8,_⟩:=dU hp
 have hw:IntKind.wrap .i64 ((cg s.L p).1+1)=((i+1:Nat):Int):=by rw [T0,wrap64 (by omega) (by omega)];omega
 rw [decide_eq_true h,if_neg (by decide),Mu,aC,hp,hw,if_pos (by omega),if_pos h]
 simp only [if_true]
 have hD:List.drop (Int.toNat (IntKind.wrap .i64 ((cg s.L p).1+1))) (List.take (Int.toNat (s.L.length:Int)) s.L)=s.L.drop (i+1):=by
  rw [hw];simp
 have fT:Loop (nz s p (cg s.L p) (aL p,0)) (([]:List (List UInt8)),0)=some (lg s.L p):=by
  refine bq.eq (bq.count (fun k=>(lg (s.L.take (i+1+k)) p,(k:Int))) (s.L.length-(i+1)) (fun _=>True) (by rw [Nat.add_zero,z7 hs hi hip];rfl) trivial (fun k hk _=> ?_) (fun _=> ?_))
  ·have XW:i+1+k<s.L.length:=by omega
   have hr:=dJ hs XW
   have hkl:=Sg (s.L.take (i+1+k)) p
   rw [List.length_take] at hkl
   unfold nz
   rw [hD]
   dsimp only
   have hkd:k<(s.L.drop (i+1)).length:=by rw [List.length_drop];omega
   rw [if_pos (by omega),bx hkd,List.getElem_drop,Mw,aC]
   cases hb:pZ p (s.L[i+1+k]).Path with
   |false=>
    rw [if_pos (by decide)]
    exact .mk (MD hs hi hip XW (by omega) hb)
   |true=>
    rw [if_neg (by decide),Mu,aC,hr]
    simp only [if_true]
    obtain ⟨_,_,hr8,_⟩:=dU hr
    rw [wrap64 (x:=((aL p).length:Int)+1) (by omega) (by omega),wrap64 (by omega) (by omega)]
    have hsu:=OZ (p:=p) XW
    have hkb:=yD (n:=s.L[i+1+k]) hr hp
    have NJ:ji (aL p) (aL (s.L[i+1+k]).Path)=true:=by
     unfold pZ at hb
     rw [hp,hr] at hb
     simpa using hb
    by_cases hlen:(aL (s.L[i+1+k]).Path).length=(aL p).length+1
    ·rw [if_pos (by omega),bx (by omega),if_pos (by simp only [List.length_cons,List.length_nil];omega),aC]
     rw [hkb.2 ⟨NJ,hlen⟩,if_pos rfl] at hsu
     refine .mk ⟨?_,trivial⟩
     rw [show i+1+(k+1)=i+1+k+1 by omega,hsu]
     unfold V3
     rw [MF hlen];rfl
    ·rw [if_neg (by omega),aC]
     have:Cq p s.L[i+1+k]=false:=by
      rw [Bool.eq_false_iff];intro hh;exact hlen (hkb.1 hh).2
     rw [this,if_neg (by decide)] at hsu
     refine .mk ⟨?_,trivial⟩
     rw [show i+1+(k+1)=i+1+k+1 by omega,hsu];rfl
  ·unfold nz
   rw [hD]
   dsimp only
   rw [List.length_drop,if_neg (by omega)]
   refine .mk ?_
   show lg (s.L.take (i+1+(s.L.length-(i+1)))) p=_
   rw [List.take_of_length_le (by omega)]
 rw [fT,aC]
theorem V4 (L:List ae) (p:List UInt8):(dI L p).2=(cg L p).2:=by
 unfold dI
 by_cases h:(cg L p).2=0<;>simp [h]
end Dn.S
