import Derived.Test.YtbkodohojpchjaaGreatDoorDnPRealm3
/- Realms: the live question. Conditions: none. -/
set_option linter.unusedVariables false
set_option linter.unusedSimpArgs false
open List renaming mem_singleton→bN
open List.Pairwise renaming nil→sh
open Go Dn
namespace Dn.S
def zl:al:=⟨⟨[⟨[47],[],0,0⟩]⟩,⟨0,[]⟩,⟨[]⟩,[]⟩
theorem QQ:wF=some zl:=rfl
theorem OC:dQ zl:=by
 refine ⟨⟨⟨by decide,⟨λn hn=> ?_,by simp [zl]⟩,⟨_,bN.2 rfl,rfl⟩,λn hn=> ?_,λn hn _=> ?_,λn hn hp=> ?_⟩,⟨by decide,by decide,sh,(λx hx=>by cases hx)⟩,⟨by decide,(λx hx=>by cases hx),List.nodup_nil⟩⟩,sh,by decide,(λx hx=>by cases hx)⟩
 ·rw [bN.1 hn];decide
 ·rw [bN.1 hn];decide
 ·rw [bN.1 hn]
 ·rw [bN.1 hn] at hp;exact absurd rfl hp
structure Small (r:al):Prop where
 shelf:r.Shelf.L.length<=1000
 book:r.ca.L.length<=1000
 table:r.bJ.L.length<=1000
 seen:r.Seen.length<=1000
 now: -10000000000<=r.ca.iT->r.ca.iT<=10000000000
def OD (r:al):Prop:= ∀x∈r.Seen,x.Names.length<=1000
theorem abt {r:al}(h:dQ r):Small r:=by have h1:=h.shelf.len;have h2:=h.book.len;have h3:=h.table.len;have h4:=h.few;have h5:=h.book.now;exact ⟨by omega,by omega,by omega,by omega,λ_=>by omega⟩
theorem J1 (x:ae)(h:x.Names.length<2^60):mb x x=some true:=by unfold mb;rw [if_pos rfl,if_pos rfl,if_pos rfl,if_pos rfl,if_pos rfl,MJ _ _ h,decide_eq_true rfl];rfl
theorem aeJ (x y:aw):((decide (x.Id=y.Id))&&((decide (x.Span=y.Span))&&(decide (x.lz=y.lz))))=decide (x=y):=by cases x;cases y;simp
theorem J3 (b:aF)(h:b.L.length<2^60):tk b b=some true:=by
 unfold tk;rw [if_pos rfl];have:dW b.L b.L=some true:=by
  unfold dW;rw [decide_eq_true rfl,if_neg (by decide)];have ke:Loop (dz b.L b.L) 0=some (.inl ()):=by
   refine bG.eq (bG.count (λk=>(k:Int)) b.L.length (λ_=>True) rfl trivial (λk hk _=> ?_) (λ_=> ?_))
   ·unfold dz;rw [if_pos (by omega),b7 hk,b7 hk,aeJ,decide_eq_true rfl,if_neg (by decide),wrap64 (by omega) (by omega)];exact .mk ⟨by omega,trivial⟩
   ·unfold dz;rw [if_neg (by omega)];exact .mk rfl
  rw [ke,az]
 rw [this];rfl
theorem J4 {r:al}(h:Small r)(hn:OD r):tp r r=some true:=by
 have h1:=h.shelf;have h2:=h.book;have h3:=h.table;have h4:=h.seen;unfold tp;rw [Ow _ _ (by omega),decide_eq_true rfl,az,if_pos rfl,J3 _ (by omega),az,if_pos rfl,aa8 _ _ (by omega),decide_eq_true rfl,az,if_pos rfl];have:bA r.Seen r.Seen mb=some true:=by
  unfold bA;rw [decide_eq_true rfl,if_neg (by decide)];have ke:Loop (bw r.Seen r.Seen mb) 0=some (.inl ()):=by
   refine bG.eq (bG.count (λk=>(k:Int)) r.Seen.length (λ_=>True) rfl trivial (λk hk _=> ?_) (λ_=> ?_))
   ·unfold bw;have:=hn _ (List.getElem_mem hk);rw [if_pos (by omega),b7 hk,b7 hk,J1 _ (by omega),az,if_neg (by decide),wrap64 (by omega) (by omega)];exact .mk ⟨by omega,trivial⟩
   ·unfold bw;rw [if_neg (by omega)];exact .mk rfl
  rw [ke,az]
 rw [this];rfl
end Dn.S
