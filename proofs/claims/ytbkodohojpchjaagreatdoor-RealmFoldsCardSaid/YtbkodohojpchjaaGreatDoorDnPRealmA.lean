import Derived.Test.YtbkodohojpchjaaGreatDoorDnPRealm3
/-
  Realms: the live question. Conditions: none.
-/
set_option linter.unusedVariables false
set_option linter.unusedSimpArgs false
open List renaming mem_singleton→c9
open Go Dn
namespace Dn.S
def BW:ap:=⟨⟨[⟨[47],[],0,0⟩]⟩,⟨0,[]⟩,⟨[]⟩,[]⟩
theorem Ry:s4=some BW:=rfl
theorem AQ:e8 BW:=by
 refine ⟨⟨⟨by decide,⟨λn hn=> ?_,by simp [BW]⟩,⟨_,c9.2 rfl,rfl⟩,λn hn=> ?_,λn hn _=> ?_,λn hn hp=> ?_⟩,⟨by decide,by decide,List.Pairwise.nil,(λx hx=>by cases hx)⟩,⟨by decide,(λx hx=>by cases hx),List.nodup_nil⟩⟩,List.Pairwise.nil,by decide,(λx hx=>by cases hx)⟩
 ·rw [c9.1 hn];decide
 ·rw [c9.1 hn];decide
 ·rw [c9.1 hn]
 ·rw [c9.1 hn] at hp;exact absurd rfl hp
structure Small (r:ap):Prop where
 shelf:r.Shelf.L.length<=1000
 book:r.aL.L.length<=1000
 table:r.aS.L.length<=1000
 seen:r.Seen.length<=1000
 now: -10000000000<=r.aL.cI->r.aL.cI<=10000000000
def amG (r:ap):Prop:= ∀x∈r.Seen,x.Names.length<=1000
theorem Rz {r:ap}(h:e8 r):Small r:=by have h1:=h.shelf.len;have h2:=h.book.len;have h3:=h.table.len;have h4:=h.few;have h5:=h.book.now;exact ⟨by omega,by omega,by omega,by omega,λ_=>by omega⟩
theorem Ks (x:ai)(h:x.Names.length<2^60):mh x x=some true:=by unfold mh;rw [if_pos rfl,if_pos rfl,if_pos rfl,if_pos rfl,if_pos rfl,MK _ _ h,decide_eq_true rfl];rfl
theorem afh (x y:aE):((decide (x.Id=y.Id))&&((decide (x.Span=y.Span))&&(decide (x.dX=y.dX))))=decide (x=y):=by cases x;cases y;simp
theorem Kt (b:aK)(h:b.L.length<2^60):tC b b=some true:=by
 unfold tC;rw [if_pos rfl];have:eM b.L b.L=some true:=by
  unfold eM;rw [decide_eq_true rfl,if_neg (by decide)];have cw:Loop (ef b.L b.L) 0=some (.inl ()):=by
   refine aO.eq (aO.count (λk=>(k:Int)) b.L.length (λ_=>True) rfl trivial (λk hk _=> ?_) (λ_=> ?_))
   ·unfold ef;rw [if_pos (by omega),ba hk,ba hk,afh,decide_eq_true rfl,if_neg (by decide),wrap64 (by omega) (by omega)];exact .mk ⟨by omega,trivial⟩
   ·unfold ef;rw [if_neg (by omega)];exact .mk rfl
  rw [cw,av]
 rw [this];rfl
theorem AR {r:ap}(h:Small r)(hn:amG r):qo r r=some true:=by
 have h1:=h.shelf;have h2:=h.book;have h3:=h.table;have h4:=h.seen;unfold qo;rw [OG _ _ (by omega),decide_eq_true rfl,av,if_pos rfl,Kt _ (by omega),av,if_pos rfl,abD _ _ (by omega),decide_eq_true rfl,av,if_pos rfl];have:bQ r.Seen r.Seen mh=some true:=by
  unfold bQ;rw [decide_eq_true rfl,if_neg (by decide)];have cw:Loop (bN r.Seen r.Seen mh) 0=some (.inl ()):=by
   refine aO.eq (aO.count (λk=>(k:Int)) r.Seen.length (λ_=>True) rfl trivial (λk hk _=> ?_) (λ_=> ?_))
   ·unfold bN;have:=hn _ (List.getElem_mem hk);rw [if_pos (by omega),ba hk,ba hk,Ks _ (by omega),av,if_neg (by decide),wrap64 (by omega) (by omega)];exact .mk ⟨by omega,trivial⟩
   ·unfold bN;rw [if_neg (by omega)];exact .mk rfl
  rw [cw,av]
 rw [this];rfl
def RB:ar:=⟨1,1,1,[47,97],[120],0,0,0⟩
def RC:ap:=⟨⟨[⟨[47],[],0,0⟩,⟨[47,97],[120],0,0⟩]⟩,⟨0,[]⟩,⟨[]⟩,[⟨1,1,0,[],0,[]⟩]⟩
theorem RD:dV BW RB=(RC,⟨1,1,0,[],0,[]⟩,[]):=by decide+kernel
theorem abW:dV RC RB=(RC,⟨1,1,0,[],0,[]⟩,[]):=by decide+kernel
theorem OT:e8 RC:=by have h:=Kr AQ RB;rw [RD] at h;exact h
theorem XL:fQ RC.Seen 1=(⟨1,1,0,[],0,[]⟩,true):=by decide+kernel
theorem TY:s5=some true:=by unfold s5;rw [Ry,av];refine aQ (FM AQ RB) ?_;rw [RD,av];refine aQ (FM OT RB) ?_;rw [abW,av,VI OT,av,XL,AR (Rz OT) (λx hx=>by rw [c9.1 hx];exact Nat.zero_le _)];rfl
end Dn.S
