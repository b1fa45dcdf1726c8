import Derived.Test.YtbkodohojpchjaaGreatDoorDnPRealm5
/-
  Realms: which are right; which are alike; the last reply of a client. Conditions: none.
-/
set_option linter.unusedVariables false
set_option linter.unusedSimpArgs false
open List renaming length_cons→c9,length_nil→sh,take_length→AI
open Go Dn
namespace Dn.S
def oK (x:aE):al:=⟨x.Id,x.Span,x.dX⟩
def kh (x:ai):aw:=⟨x.Client,x.Seq,x.E,x.Value,x.Version,x.Names⟩
def gK (r:ap):bM:=⟨dp r.Shelf,⟨r.aL.cI,r.aL.L.map oK⟩,⟨r.aS.L.map sb⟩,r.Seen.map kh⟩
theorem CV (l:List ai)(hl:l.length<=1000):ko l=some (l.map kh):=by
 unfold ko;have cw:Loop (nq l) (([]:List aw),0)=some (l.map kh):=by
  refine EH l kh (λk hk=> ?_) ?_
  ·unfold nq;dsimp only;have:= @uu _ _ kh l k;rw [if_pos (by omega),ba hk,show Dz l[k]=some (kh l[k]) from rfl,av,if_pos (by simp only [c9,sh];omega),wrap64 (by omega) (by omega)];rfl
  ·unfold nq;dsimp only;rw [if_neg (by omega)]
 rw [cw,av]
theorem T2 {r:ap}(h:Small r):wG r=some (gK r):=by
 have h1:=h.shelf;have h2:=h.book;have h3:=h.table;have h4:=h.seen;unfold wG;rw [CV _ h4,av];have l1:Loop (ra r) (([]:List aP),r.aL.cI,([]:List al),([]:List aF),r.Seen.map kh,0)=some (r.Shelf.L.map toR,r.aL.cI,([]:List al),([]:List aF),r.Seen.map kh):=by
  refine aO.eq (aO.count (λk=>((r.Shelf.L.take k).map toR,r.aL.cI,([]:List al),([]:List aF),r.Seen.map kh,(k:Int))) r.Shelf.L.length (λ_=>True) (by simp) trivial (λk hk _=> ?_) (λ_=> ?_))
  ·unfold ra;dsimp only;have:= @uu _ _ toR r.Shelf.L k;rw [if_pos (by omega),ba hk,if_pos (by simp only [c9,sh];omega),wrap64 (by omega) (by omega),ta hk];exact .mk ⟨rfl,trivial⟩
  ·unfold ra;dsimp only;rw [if_neg (by omega),AI];exact .mk rfl
 rw [l1,av];dsimp only;have l2:Loop (rc r) (r.Shelf.L.map toR,r.aL.cI,([]:List al),([]:List aF),r.Seen.map kh,0)=some (r.Shelf.L.map toR,r.aL.cI,r.aL.L.map oK,([]:List aF),r.Seen.map kh):=by
  refine aO.eq (aO.count (λk=>(r.Shelf.L.map toR,r.aL.cI,(r.aL.L.take k).map oK,([]:List aF),r.Seen.map kh,(k:Int))) r.aL.L.length (λ_=>True) (by simp) trivial (λk hk _=> ?_) (λ_=> ?_))
  ·unfold rc;dsimp only;have:= @uu _ _ oK r.aL.L k;rw [if_pos (by omega),ba hk,if_pos (by simp only [c9,sh];omega),wrap64 (by omega) (by omega),ta hk];exact .mk ⟨rfl,trivial⟩
  ·unfold rc;dsimp only;rw [if_neg (by omega),AI];exact .mk rfl
 rw [l2,av];dsimp only;have l3:Loop (re r) (r.Shelf.L.map toR,r.aL.cI,r.aL.L.map oK,([]:List aF),r.Seen.map kh,0)=some (r.Shelf.L.map toR,r.aL.cI,r.aL.L.map oK,r.aS.L.map sb,r.Seen.map kh):=by
  refine aO.eq (aO.count (λk=>(r.Shelf.L.map toR,r.aL.cI,r.aL.L.map oK,(r.aS.L.take k).map sb,r.Seen.map kh,(k:Int))) r.aS.L.length (λ_=>True) (by simp) trivial (λk hk _=> ?_) (λ_=> ?_))
  ·unfold re;dsimp only;have:= @uu _ _ sb r.aS.L k;rw [if_pos (by omega),ba hk,if_pos (by simp only [c9,sh];omega),wrap64 (by omega) (by omega),ta hk];exact .mk ⟨rfl,trivial⟩
  ·unfold re;dsimp only;rw [if_neg (by omega),AI];exact .mk rfl
 rw [l3,av];rfl
end Dn.S
