import Derived.Test.YteakdlhhamgfbaaDoorDnPPath2
import Derived.Test.YteakdlhhamgfbaaDoorDnYV
/-
  Paths: what the document says; PathTells. Conditions: none.
-/
open Go Dn
set_option linter.unusedVariables false
set_option linter.unusedSimpArgs false
namespace Dn.S
theorem q8 (p:List UInt8):ju p=some (bL p):=by
 unfold ju
 by_cases hl:p.length≤100
 rotate_left
 ·rw [if_pos (by omega)];simp [bL,hl]
 rw [if_neg (by omega),uX p (by omega),bY]
 have hle: ∀y∈(if fV p then ba p else []),y.length≤100:=by
  intro y hy
  split at hy
  ·unfold ba at hy
   split at hy
   ·simp at hy
   ·have:=xH _ y hy;rw [List.length_drop] at this;omega
  ·simp at hy
 have hlen:(if fV p then ba p else []).length≤101:=by
  split
  ·unfold ba
   split
   ·simp
   ·have:=mg (c:=47) (p.drop 1);rw [List.length_drop] at this;omega
  ·simp
 generalize hL:(if fV p then ba p else [])=L at hle hlen
 obtain ⟨r,e,hr⟩:=te (body:=iH (L,fV p)) L.length (fun k=>dr (L.getD k [])=true) false (fun k hk _=>by
  have hg:L.getD k []=L[k]:=by rw [List.getD_eq_getElem?_getD,List.getElem?_eq_getElem hk];rfl
  unfold iH
  dsimp only
  rw [if_pos (by omega),gy hk,pO _ (by have:=hle _ (List.getElem_mem hk);omega),bY,hg]
  constructor
  ·intro h;rw [h];simp only [Bool.not_true,Bool.false_eq_true,if_false];rw [wrap64 (by omega) (by omega)];rfl
  ·intro h;rw [Bool.not_eq_true] at h;rw [h];rfl) (by
  unfold iH
  dsimp only
  rw [if_neg (by omega)])
 rw [e,bY]
 have iV:(∀k,k<L.length→dr (L.getD k [])=true)↔L.all dr=true:=by
  rw [List.all_eq_true]
  constructor
  ·intro h x hx
   obtain ⟨k,hk,rfl⟩:=List.mem_iff_getElem.1 hx
   have:=h k hk
   rwa [List.getD_eq_getElem?_getD,List.getElem?_eq_getElem hk] at this
  ·intro h k hk
   rw [List.getD_eq_getElem?_getD,List.getElem?_eq_getElem hk]
   exact h _ (List.getElem_mem hk)
 unfold bL
 cases ha:fV p with
 |false=>
  rcases hr with ⟨rfl,h⟩|⟨rfl,k,hk,h⟩<;>simp [bY]
 |true=>
  rw [ha] at hL
  simp only [if_true] at hL
  rw [hL]
  rcases hr with ⟨rfl,h⟩|⟨rfl,k,hk,h⟩
  ·have h:=iV.1 h
   simp only [if_true,bY,td,h,hl,decide_true,Bool.and_true,Bool.true_and,Option.some.injEq,decide_eq_decide]
   omega
  ·have:L.all dr=false:=by
    rw [Bool.eq_false_iff];intro hh;exact h (iV.2 hh k hk)
   simp [this]
theorem eV {p:List UInt8} (h:bL p=true):p.length≤100∧fV p=true∧(ba p).length≤8∧(ba p).all dr=true:=by
 unfold bL at h
 simp only [Bool.and_eq_true,decide_eq_true_eq] at h
 exact ⟨h.1.2,h.1.1,h.2.1,h.2.2⟩
theorem iP (p:List UInt8):e9 p=some (if bL p then (ba p,0) else ([],13)):=by
 unfold e9
 rw [q8,bY]
 cases h:bL p with
 |false=>simp
 |true=>
  obtain ⟨h1,h2,_⟩:=eV h
  simp only [Bool.not_true,Bool.false_eq_true,if_false,if_true]
  rw [uX p (by omega),bY,h2]
  rfl
def mB (l:List (List UInt8)):List UInt8:=if l=[] then [47] else l.flatMap (47::·)
theorem F2 (l:List (List UInt8)) (h1:(l.flatMap ((47:UInt8)::·)).length≤2^40) (h2:l.length<2^60):lr l=some (mB l):=by
 have xG:Loop (jK l) (([]:List UInt8),0)=some (l.flatMap ((47:UInt8)::·)):=by
  refine bQ.eq (bQ.count (fun k=>((l.take k).flatMap ((47:UInt8)::·),(k:Int))) l.length (fun _=>True) rfl trivial (fun k hk _=> ?_) (fun _=> ?_))
  ·unfold jK
   dsimp only
   have Fu:(l.take (k+1)).flatMap ((47:UInt8)::·)=(l.take k).flatMap ((47:UInt8)::·)++[47]++l[k]:=by
    rw [take_succ hk,List.flatMap_append];simp
   have KO:((l.take (k+1)).flatMap ((47:UInt8)::·)).length≤(l.flatMap ((47:UInt8)::·)).length:=by
    have:l.flatMap ((47:UInt8)::·)=(l.take (k+1)).flatMap ((47:UInt8)::·)++(l.drop (k+1)).flatMap ((47:UInt8)::·):=by
     rw [←List.flatMap_append,List.take_append_drop]
    rw [this,List.length_append];omega
   rw [Fu] at KO
   simp only [List.length_append,List.length_cons,List.length_nil] at KO
   rw [if_pos (by omega),if_pos (by simp only [List.length_cons,List.length_nil];omega),gy hk,if_pos (by simp only [List.length_append,List.length_cons,List.length_nil];omega),wrap64 (by omega) (by omega)]
   refine .mk ⟨?_,trivial⟩
   rw [Fu]
   rfl
  ·unfold jK
   dsimp only
   rw [if_neg (by omega),List.take_length]
   exact .mk rfl
 unfold lr
 rw [xG,bY]
 unfold mB
 cases l with
 |nil=>rfl
 |cons a l=>simp
theorem Ej {p:List UInt8} (h:fV p=true): ∃r,p=47::r:=by
 cases p with
 |nil=>simp [fV] at h
 |cons x r=>exact ⟨r,by rw [show x=47 by simpa [fV] using h]⟩
theorem Bl {p:List UInt8} (h:fV p=true) (h1:p≠[47]): ∃L x,ba p=L++[x]∧p=L.flatMap ((47:UInt8)::·)++47::x∧(47:UInt8)∉x:=by
 obtain ⟨r,rfl⟩:=Ej h
 have hn:ba (47::r)=aQ 47 r:=by simp [ba,h1]
 have AQ:=gz (lE (c:=47) r)
 refine ⟨_,_,by rw [hn];exact AQ.symm,?_,Eh r _ (by rw [←AQ];simp)⟩
 have:=y7 (c:=47) r
 rw [←AQ,List.flatMap_append] at this
 simpa using this.symm
end Dn.S
