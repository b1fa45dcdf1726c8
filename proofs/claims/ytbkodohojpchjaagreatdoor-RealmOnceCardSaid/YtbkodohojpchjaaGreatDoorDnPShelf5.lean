import Derived.Test.YtbkodohojpchjaaGreatDoorDnPShelf4
/-
  Shelves: kids; ShelfAsks. Conditions: none.
-/
open Go Dn
set_option linter.unusedVariables false
set_option linter.unusedSimpArgs false
namespace Dn.S
theorem Pj {x p:List UInt8} (hx:bm x=true) (hp:bm p=true):((cM x).2=0∧(cM x).1=p)↔(jm (aK p) (aK x)=true∧(aK x).length=(aK p).length+1):=by
 obtain ⟨x1,x2,x3,x4⟩:=ea hx
 obtain ⟨p1,p2,p3,p4⟩:=ea hp
 unfold cM
 rw [hx]
 by_cases h0:x=[47]
 ·have hn:(aK x).length=0:=(yP hx).2 h0
  simp only [if_true,h0]
  constructor
  ·rintro ⟨h,_⟩;exact absurd h (by decide)
  ·rintro ⟨_,h⟩;rw [←h0,hn] at h;omega
 ·have hn: ¬(aK x).length=0:=fun e=>h0 ((yP hx).1 e)
  simp only [if_true,h0,if_false,true_and]
  have mb:(aK x).dropLast.all kb=true:=by
   rw [List.all_eq_true] at x4⊢
   exact fun y hy=>x4 y (List.mem_of_mem_take (by rw [List.dropLast_eq_take] at hy;exact hy))
  obtain ⟨g1,g2,_⟩:=Gz mb
  constructor
  ·intro h
   have hnp:aK p=(aK x).dropLast:=by rw [←h,g1]
   unfold jm
   rw [hnp,List.length_dropLast,List.dropLast_eq_take]
   simp only [Bool.and_eq_true,decide_eq_true_eq]
   exact ⟨⟨by omega,trivial⟩,by omega⟩
  ·rintro ⟨hb,hlen⟩
   unfold jm at hb
   simp only [Bool.and_eq_true,decide_eq_true_eq] at hb
   have:(aK x).dropLast=aK p:=by
    rw [List.dropLast_eq_take,hlen,Nat.add_sub_cancel]
    exact hb.2.symm
   rw [this,Ao p2]
def CB (p:List UInt8) (n:ae):Bool:=decide ((cM n.Path).2=0∧(cM n.Path).1=p)
def Ww (n:ae):List UInt8:=(aK n.Path).getLastD []
def lg (L:List ae) (p:List UInt8):List (List UInt8):=(L.filter (CB p)).map Ww
theorem Jl (L:List ae) (p:List UInt8):(lg L p).length≤L.length:=by
 unfold lg;rw [List.length_map];exact List.length_filter_le _ _
theorem Pk {L:List ae} {p:List UInt8} {k:Nat} (hk:k<L.length):lg (L.take (k+1)) p=if CB p L[k] then lg (L.take k) p++[Ww L[k]] else lg (L.take k) p:=by
 unfold lg
 rw [take_succ hk,List.filter_append,List.map_append]
 by_cases h:CB p L[k]=true
 ·simp [h]
 ·simp [h]
theorem yR {p:List UInt8} {n:ae} (hn:bm n.Path=true) (hp:bm p=true):CB p n=true↔(jm (aK p) (aK n.Path)=true∧(aK n.Path).length=(aK p).length+1):=by
 unfold CB
 rw [decide_eq_true_eq]
 exact Pj hn hp
theorem Ap {L:List ae} (hs:nY L) {i j:Nat} (hi:i<L.length) (hj:j<L.length) (h:i<j):mW (aK (L[i]).Path) (aK (L[j]).Path)=true:=List.pairwise_iff_getElem.1 hs.2 i j hi hj h
theorem dP {L:List ae} (hs:nY L) {i:Nat} (hi:i<L.length):bm (L[i]).Path=true:=hs.1 _ (List.getElem_mem hi)
theorem SA {L:List ae} (hs:nY L) {p:List UInt8} {i:Nat} (hi:i<L.length) (hp:(L[i]).Path=p) {j:Nat} (hj:j<L.length) (Td:j≤i):CB p L[j]=false:=by
 rw [Bool.eq_false_iff]
 intro h
 have EB:bm p=true:=by rw [←hp];exact dP hs hi
 have h1:=Wr ((yR (dP hs hj) EB).1 h).1
 by_cases he:j=i
 ·subst he
  rw [hp,BA] at h1;cases h1
 ·have h2:=Ap hs hj hi (by omega)
  rw [hp] at h2
  have:=CA h1 h2
  rw [BA] at this;cases this
theorem Aq {L:List ae} (hs:nY L) {p:List UInt8} {i:Nat} (hi:i<L.length) (hp:(L[i]).Path=p):lg (L.take (i+1)) p=[]:=by
 unfold lg
 rw [List.map_eq_nil_iff,List.filter_eq_nil_iff]
 intro n hn
 obtain ⟨j,hj,rfl⟩:=List.mem_iff_getElem.1 hn
 rw [List.length_take] at hj
 rw [List.getElem_take]
 rw [SA hs hi hp (by omega) (by omega)]
 simp
theorem SB {L:List ae} (hs:nY L) {p:List UInt8} {i k:Nat} (hi:i<L.length) (hp:(L[i]).Path=p) (hk:k<L.length) (hik:i<k) (hb:qf p (L[k]).Path=false) {j:Nat} (hj:j<L.length) (hkj:k≤j):
 qf p (L[j]).Path=false:=by
 rw [Bool.eq_false_iff]
 intro h
 have EB:bm p=true:=by rw [←hp];exact dP hs hi
 unfold qf at h hb
 rw [EB,dP hs hj] at h
 rw [EB,dP hs hk] at hb
 simp only [Bool.true_and] at h hb
 by_cases he:j=k
 ·subst he;rw [h] at hb;cases hb
 ·have h1:=Ap hs hi hk hik
  rw [hp] at h1
  have:=ZE h1 (Ap hs hk hj (by omega)) h
  rw [this] at hb;cases hb
theorem MY {L:List ae} (hs:nY L) {p:List UInt8} {i k:Nat} (hi:i<L.length) (hp:(L[i]).Path=p) (hk:k<L.length) (hik:i<k) (hb:qf p (L[k]).Path=false):lg (L.take k) p=lg L p:=by
 have EB:bm p=true:=by rw [←hp];exact dP hs hi
 have:(L.drop k).filter (CB p)=[]:=by
  rw [List.filter_eq_nil_iff]
  intro n hn ZG
  obtain ⟨j,hj,rfl⟩:=List.mem_iff_getElem.1 hn
  rw [List.length_drop] at hj
  rw [List.getElem_drop] at ZG
  have h1:=SB hs hi hp hk hik hb (j:=k+j) (by omega) (by omega)
  have h2:=((yR (dP hs (by omega)) EB).1 ZG).1
  unfold qf at h1
  rw [EB,dP hs (by omega),h2] at h1
  simp at h1
 unfold lg
 conv=>rhs;rw [←List.take_append_drop k L]
 rw [List.filter_append,this,List.append_nil]
theorem QJ {L:List ae} {p:List UInt8} (h:(cV L p).2=0):bm p=true∧ ∃i,∃hi:i<L.length,(cV L p).1=(i:Int)∧(L[i]).Path=p:=by
 unfold cV at h⊢
 cases hp:bm p with
 |false=>rw [hp] at h;simp at h
 |true=>
  rw [hp] at h
  by_cases h0:0≤qg (L.map (·.Path)) p
  ·simp only [if_true,h0]
   refine ⟨trivial,?_⟩
   unfold qg at h0⊢
   cases hf:(L.map (·.Path)).findIdx? (fun x=>decide (x=p)) with
   |none=>rw [hf] at h0;simp at h0
   |some k=>
    have PN:=hf
    rw [List.findIdx?_eq_some_iff_getElem] at PN
    obtain ⟨hk,hd,_⟩:=PN
    exact ⟨k,by simpa using hk,rfl,by simpa using hd⟩
  ·simp [h0] at h
def GD (L:List ae) (p:List UInt8):List (List UInt8)×Int:=if (cV L p).2=0 then (lg L p,0) else ([],(cV L p).2)
theorem MZ {l:List (List UInt8)} {n:Nat} (h:l.length=n+1):l.getLastD []=l[n]'(by omega):=by
 have db:l≠[]:=by intro e;rw [e] at h;simp at h
 rw [List.getLastD_eq_getLast?,List.getLast?_eq_some_getLast db,Option.getD_some,List.getLast_eq_getElem]
 congr 1;omega
theorem ZH {s:ax} (hs:nY s.L) (hl:s.L.length<2^40) (p:List UInt8):rq s p=some (GD s.L p):=by
 unfold rq GD
 rw [find_eq hs hl,aA]
 by_cases h:(cV s.L p).2=0
 rotate_left
 ·rw [decide_eq_false h,if_pos (by decide),if_neg h]
 obtain ⟨hp,i,hi,Uk,hip⟩:=QJ h
 obtain ⟨_,_,hp8,_⟩:=ea hp
 have hw:IntKind.wrap .i64 ((cV s.L p).1+1)=((i+1:Nat):Int):=by rw [Uk,wrap64 (by omega) (by omega)];omega
 rw [decide_eq_true h,if_neg (by decide),MN,aA,hp,hw,if_pos (by omega),if_pos h]
 simp only [if_true]
 have hD:List.drop (Int.toNat (IntKind.wrap .i64 ((cV s.L p).1+1))) (List.take (Int.toNat (s.L.length:Int)) s.L)=s.L.drop (i+1):=by
  rw [hw];simp
 have fW:Loop (nz s p (cV s.L p) (aK p,0)) (([]:List (List UInt8)),0)=some (lg s.L p):=by
  refine bu.eq (bu.count (fun k=>(lg (s.L.take (i+1+k)) p,(k:Int))) (s.L.length-(i+1)) (fun _=>True) (by rw [Nat.add_zero,Aq hs hi hip];rfl) trivial (fun k hk _=> ?_) (fun _=> ?_))
  ·have Yk:i+1+k<s.L.length:=by omega
   have hr:=dP hs Yk
   have hkl:=Jl (s.L.take (i+1+k)) p
   rw [List.length_take] at hkl
   unfold nz
   rw [hD]
   dsimp only
   have hkd:k<(s.L.drop (i+1)).length:=by rw [List.length_drop];omega
   rw [if_pos (by omega),bt hkd,List.getElem_drop,MP,aA]
   cases hb:qf p (s.L[i+1+k]).Path with
   |false=>
    rw [if_pos (by decide)]
    exact .mk (MY hs hi hip Yk (by omega) hb)
   |true=>
    rw [if_neg (by decide),MN,aA,hr]
    simp only [if_true]
    obtain ⟨_,_,hr8,_⟩:=ea hr
    rw [wrap64 (x:=((aK p).length:Int)+1) (by omega) (by omega),wrap64 (by omega) (by omega)]
    have hsu:=Pk (p:=p) Yk
    have hkb:=yR (n:=s.L[i+1+k]) hr hp
    have N2:jm (aK p) (aK (s.L[i+1+k]).Path)=true:=by
     unfold qf at hb
     rw [hp,hr] at hb
     simpa using hb
    by_cases hlen:(aK (s.L[i+1+k]).Path).length=(aK p).length+1
    ·rw [if_pos (by omega),bt (by omega),if_pos (by simp only [List.length_cons,List.length_nil];omega),aA]
     rw [hkb.2 ⟨N2,hlen⟩,if_pos rfl] at hsu
     refine .mk ⟨?_,trivial⟩
     rw [show i+1+(k+1)=i+1+k+1 by omega,hsu]
     unfold Ww
     rw [MZ hlen];rfl
    ·rw [if_neg (by omega),aA]
     have:CB p s.L[i+1+k]=false:=by
      rw [Bool.eq_false_iff];intro hh;exact hlen (hkb.1 hh).2
     rw [this,if_neg (by decide)] at hsu
     refine .mk ⟨?_,trivial⟩
     rw [show i+1+(k+1)=i+1+k+1 by omega,hsu];rfl
  ·unfold nz
   rw [hD]
   dsimp only
   rw [List.length_drop,if_neg (by omega)]
   refine .mk ?_
   show lg (s.L.take (i+1+(s.L.length-(i+1)))) p=_
   rw [List.take_of_length_le (by omega)]
 rw [fW,aA]
theorem ac5 (L:List ae) (p:List UInt8):(kl L p).2=(cV L p).2:=by
 unfold kl
 by_cases h:(cV L p).2=0<;>simp [h]
theorem SC (L:List ae) (p:List UInt8):(GD L p).1.length≤L.length:=by
 unfold GD
 by_cases h:(cV L p).2=0
 ·simp only [h,if_true];exact Jl L p
 ·simp [h]
end Dn.S
