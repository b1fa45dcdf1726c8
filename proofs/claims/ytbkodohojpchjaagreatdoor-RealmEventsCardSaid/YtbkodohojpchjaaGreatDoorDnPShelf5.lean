import Derived.Test.YtbkodohojpchjaaGreatDoorDnPShelf4
/-
  Shelves: kids; ShelfAsks. Conditions: none.
-/
open Go Dn
set_option linter.unusedVariables false
set_option linter.unusedSimpArgs false
namespace Dn.S
theorem Lu {x p:List UInt8} (hx:bJ x=true) (hp:bJ p=true):((ez x).2=0∧(ez x).1=p)↔(iy (aM p) (aM x)=true∧(aM x).length=(aM p).length+1):=by
 obtain ⟨x1,x2,x3,x4⟩:=fH hx
 obtain ⟨p1,p2,p3,p4⟩:=fH hp
 unfold ez
 rw [hx]
 by_cases h0:x=[47]
 ·have hn:(aM x).length=0:=(Gf hx).2 h0
  simp only [if_true,h0]
  constructor
  ·rintro ⟨h,_⟩;exact absurd h (by decide)
  ·rintro ⟨_,h⟩;rw [←h0,hn] at h;omega
 ·have hn: ¬(aM x).length=0:=fun e=>h0 ((Gf hx).1 e)
  simp only [if_true,h0,if_false,true_and]
  have rC:(aM x).dropLast.all oh=true:=by
   rw [List.all_eq_true] at x4⊢
   exact fun y hy=>x4 y (List.mem_of_mem_take (by rw [List.dropLast_eq_take] at hy;exact hy))
  obtain ⟨g1,g2,_⟩:=DR rC
  constructor
  ·intro h
   have VT:aM p=(aM x).dropLast:=by rw [←h,g1]
   unfold iy
   rw [VT,List.length_dropLast,List.dropLast_eq_take]
   simp only [Bool.and_eq_true,decide_eq_true_eq]
   exact ⟨⟨by omega,trivial⟩,by omega⟩
  ·rintro ⟨hb,hlen⟩
   unfold iy at hb
   simp only [Bool.and_eq_true,decide_eq_true_eq] at hb
   have:(aM x).dropLast=aM p:=by
    rw [List.dropLast_eq_take,hlen,Nat.add_sub_cancel]
    exact hb.2.symm
   rw [this,yb p2]
def Am (p:List UInt8) (n:ae):Bool:=decide ((ez n.Path).2=0∧(ez n.Path).1=p)
def Sn (n:ae):List UInt8:=(aM n.Path).getLastD []
def kq (L:List ae) (p:List UInt8):List (List UInt8):=(L.filter (Am p)).map Sn
theorem OE (L:List ae) (p:List UInt8):(kq L p).length≤L.length:=by
 unfold kq;rw [List.length_map];exact List.length_filter_le _ _
theorem Lv {L:List ae} {p:List UInt8} {k:Nat} (hk:k<L.length):kq (L.take (k+1)) p=if Am p L[k] then kq (L.take k) p++[Sn L[k]] else kq (L.take k) p:=by
 unfold kq
 rw [take_succ hk,List.filter_append,List.map_append]
 by_cases h:Am p L[k]=true
 ·simp [h]
 ·simp [h]
theorem wF {p:List UInt8} {n:ae} (hn:bJ n.Path=true) (hp:bJ p=true):Am p n=true↔(iy (aM p) (aM n.Path)=true∧(aM n.Path).length=(aM p).length+1):=by
 unfold Am
 rw [decide_eq_true_eq]
 exact Lu hn hp
theorem DU {L:List ae} (hs:oT L) {i j:Nat} (hi:i<L.length) (hj:j<L.length) (h:i<j):oR (aM (L[i]).Path) (aM (L[j]).Path)=true:=List.pairwise_iff_getElem.1 hs.2 i j hi hj h
theorem iz {L:List ae} (hs:oT L) {i:Nat} (hi:i<L.length):bJ (L[i]).Path=true:=hs.1 _ (List.getElem_mem hi)
theorem OG {L:List ae} (hs:oT L) {p:List UInt8} {i:Nat} (hi:i<L.length) (hp:(L[i]).Path=p) {j:Nat} (hj:j<L.length) (Pj:j≤i):Am p L[j]=false:=by
 rw [Bool.eq_false_iff]
 intro h
 have Cf:bJ p=true:=by rw [←hp];exact iz hs hi
 have h1:=Si ((wF (iz hs hj) Cf).1 h).1
 by_cases he:j=i
 ·subst he
  rw [hp,zm] at h1;cases h1
 ·have h2:=DU hs hj hi (by omega)
  rw [hp] at h2
  have:=Gg h1 h2
  rw [zm] at this;cases this
theorem yc {L:List ae} (hs:oT L) {p:List UInt8} {i:Nat} (hi:i<L.length) (hp:(L[i]).Path=p):kq (L.take (i+1)) p=[]:=by
 unfold kq
 rw [List.map_eq_nil_iff,List.filter_eq_nil_iff]
 intro n hn
 obtain ⟨j,hj,rfl⟩:=List.mem_iff_getElem.1 hn
 rw [List.length_take] at hj
 rw [List.getElem_take]
 rw [OG hs hi hp (by omega) (by omega)]
 simp
theorem OH {L:List ae} (hs:oT L) {p:List UInt8} {i k:Nat} (hi:i<L.length) (hp:(L[i]).Path=p) (hk:k<L.length) (Y7:i<k) (hb:oS p (L[k]).Path=false) {j:Nat} (hj:j<L.length) (hkj:k≤j):
 oS p (L[j]).Path=false:=by
 rw [Bool.eq_false_iff]
 intro h
 have Cf:bJ p=true:=by rw [←hp];exact iz hs hi
 unfold oS at h hb
 rw [Cf,iz hs hj] at h
 rw [Cf,iz hs hk] at hb
 simp only [Bool.true_and] at h hb
 by_cases he:j=k
 ·subst he;rw [h] at hb;cases hb
 ·have h1:=DU hs hi hk Y7
  rw [hp] at h1
  have:=Va h1 (DU hs hk hj (by omega)) h
  rw [this] at hb;cases hb
theorem JD {L:List ae} (hs:oT L) {p:List UInt8} {i k:Nat} (hi:i<L.length) (hp:(L[i]).Path=p) (hk:k<L.length) (Y7:i<k) (hb:oS p (L[k]).Path=false):kq (L.take k) p=kq L p:=by
 have Cf:bJ p=true:=by rw [←hp];exact iz hs hi
 have:(L.drop k).filter (Am p)=[]:=by
  rw [List.filter_eq_nil_iff]
  intro n hn Vc
  obtain ⟨j,hj,rfl⟩:=List.mem_iff_getElem.1 hn
  rw [List.length_drop] at hj
  rw [List.getElem_drop] at Vc
  have h1:=OH hs hi hp hk Y7 hb (j:=k+j) (by omega) (by omega)
  have h2:=((wF (iz hs (by omega)) Cf).1 Vc).1
  unfold oS at h1
  rw [Cf,iz hs (by omega),h2] at h1
  simp at h1
 unfold kq
 conv=>rhs;rw [←List.take_append_drop k L]
 rw [List.filter_append,this,List.append_nil]
theorem MP {L:List ae} {p:List UInt8} (h:(cL L p).2=0):bJ p=true∧ ∃i,∃hi:i<L.length,(cL L p).1=(i:Int)∧(L[i]).Path=p:=by
 unfold cL at h⊢
 cases hp:bJ p with
 |false=>rw [hp] at h;simp at h
 |true=>
  rw [hp] at h
  by_cases h0:0≤Al (L.map (·.Path)) p
  ·simp only [if_true,h0]
   refine ⟨trivial,?_⟩
   unfold Al at h0⊢
   cases hf:(L.map (·.Path)).findIdx? (fun x=>decide (x=p)) with
   |none=>rw [hf] at h0;simp at h0
   |some k=>
    have LX:=hf
    rw [List.findIdx?_eq_some_iff_getElem] at LX
    obtain ⟨hk,hd,_⟩:=LX
    exact ⟨k,by simpa using hk,rfl,by simpa using hd⟩
  ·simp [h0] at h
def MQ (L:List ae) (p:List UInt8):List (List UInt8)×Int:=if (cL L p).2=0 then (kq L p,0) else ([],(cL L p).2)
theorem JE {l:List (List UInt8)} {n:Nat} (h:l.length=n+1):l.getLastD []=l[n]'(by omega):=by
 have cG:l≠[]:=by intro e;rw [e] at h;simp at h
 rw [List.getLastD_eq_getLast?,List.getLast?_eq_some_getLast cG,Option.getD_some,List.getLast_eq_getElem]
 congr 1;omega
theorem Vd {s:aB} (hs:oT s.L) (hl:s.L.length<2^40) (p:List UInt8):pP s p=some (MQ s.L p):=by
 unfold pP MQ
 rw [find_eq hs hl,aR]
 by_cases h:(cL s.L p).2=0
 rotate_left
 ·rw [decide_eq_false h,if_pos (by decide),if_neg h]
 obtain ⟨hp,i,hi,Qm,hip⟩:=MP h
 obtain ⟨_,_,hp8,_⟩:=fH hp
 have hw:IntKind.wrap .i64 ((cL s.L p).1+1)=((i+1:Nat):Int):=by rw [Qm,wrap64 (by omega) (by omega)];omega
 rw [decide_eq_true h,if_neg (by decide),Jx,aR,hp,hw,if_pos (by omega),if_pos h]
 simp only [if_true]
 have hD:List.drop (Int.toNat (IntKind.wrap .i64 ((cL s.L p).1+1))) (List.take (Int.toNat (s.L.length:Int)) s.L)=s.L.drop (i+1):=by
  rw [hw];simp
 have iw:Loop (mG s p (cL s.L p) (aM p,0)) (([]:List (List UInt8)),0)=some (kq s.L p):=by
  refine bV.eq (bV.count (fun k=>(kq (s.L.take (i+1+k)) p,(k:Int))) (s.L.length-(i+1)) (fun _=>True) (by rw [Nat.add_zero,yc hs hi hip];rfl) trivial (fun k hk _=> ?_) (fun _=> ?_))
  ·have Ua:i+1+k<s.L.length:=by omega
   have hr:=iz hs Ua
   have hkl:=OE (s.L.take (i+1+k)) p
   rw [List.length_take] at hkl
   unfold mG
   rw [hD]
   dsimp only
   have hkd:k<(s.L.drop (i+1)).length:=by rw [List.length_drop];omega
   rw [if_pos (by omega),cg hkd,List.getElem_drop,JA,aR]
   cases hb:oS p (s.L[i+1+k]).Path with
   |false=>
    rw [if_pos (by decide)]
    exact .mk (JD hs hi hip Ua (by omega) hb)
   |true=>
    rw [if_neg (by decide),Jx,aR,hr]
    simp only [if_true]
    obtain ⟨_,_,hr8,_⟩:=fH hr
    rw [wrap64 (x:=((aM p).length:Int)+1) (by omega) (by omega),wrap64 (by omega) (by omega)]
    have hsu:=Lv (p:=p) Ua
    have hkb:=wF (n:=s.L[i+1+k]) hr hp
    have Ky:iy (aM p) (aM (s.L[i+1+k]).Path)=true:=by
     unfold oS at hb
     rw [hp,hr] at hb
     simpa using hb
    by_cases hlen:(aM (s.L[i+1+k]).Path).length=(aM p).length+1
    ·rw [if_pos (by omega),cg (by omega),if_pos (by simp only [List.length_cons,List.length_nil];omega),aR]
     rw [hkb.2 ⟨Ky,hlen⟩,if_pos rfl] at hsu
     refine .mk ⟨?_,trivial⟩
     rw [show i+1+(k+1)=i+1+k+1 by omega,hsu]
     unfold Sn
     rw [JE hlen];rfl
    ·rw [if_neg (by omega),aR]
     have:Am p s.L[i+1+k]=false:=by
      rw [Bool.eq_false_iff];intro hh;exact hlen (hkb.1 hh).2
     rw [this,if_neg (by decide)] at hsu
     refine .mk ⟨?_,trivial⟩
     rw [show i+1+(k+1)=i+1+k+1 by omega,hsu];rfl
  ·unfold mG
   rw [hD]
   dsimp only
   rw [List.length_drop,if_neg (by omega)]
   refine .mk ?_
   show kq (s.L.take (i+1+(s.L.length-(i+1)))) p=_
   rw [List.take_of_length_le (by omega)]
 rw [iw,aR]
theorem Yy (L:List ae) (p:List UInt8):(jD L p).2=(cL L p).2:=by
 unfold jD
 by_cases h:(cL L p).2=0<;>simp [h]
end Dn.S
