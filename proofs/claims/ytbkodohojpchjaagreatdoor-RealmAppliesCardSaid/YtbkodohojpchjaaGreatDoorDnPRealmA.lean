import Derived.Test.YtbkodohojpchjaaGreatDoorDnPRealm3
/-
  Realms: the live question. Conditions: none.
-/
set_option linter.unusedVariables false
set_option linter.unusedSimpArgs false
open List renaming mem_singleton→c8
open Go Dn
namespace Dn.S
def afs:au:=⟨⟨[⟨[47],[],0,0⟩]⟩,⟨0,[]⟩,⟨[]⟩,[]⟩
theorem aci:Bu=some afs:=rfl
theorem acj:iG afs:=by
 refine ⟨⟨⟨by decide,⟨λn hn=> ?_,by simp [afs]⟩,⟨_,c8.2 rfl,rfl⟩,λn hn=> ?_,λn hn _=> ?_,λn hn hp=> ?_⟩,⟨by decide,by decide,List.Pairwise.nil,(λx hx=>by cases hx)⟩,⟨by decide,(λx hx=>by cases hx),List.nodup_nil⟩⟩,List.Pairwise.nil,by decide,(λx hx=>by cases hx)⟩
 ·rw [c8.1 hn];decide
 ·rw [c8.1 hn];decide
 ·rw [c8.1 hn]
 ·rw [c8.1 hn] at hp;exact absurd rfl hp
structure Small (r:au):Prop where
 shelf:r.Shelf.L.length<=1000
 book:r.aN.L.length<=1000
 table:r.aR.L.length<=1000
 seen:r.Seen.length<=1000
 now: -10000000000<=r.aN.ct->r.aN.ct<=10000000000
def ai9 (r:au):Prop:= ∀x∈r.Seen,x.Names.length<=1000
theorem RI {r:au}(h:iG r):Small r:=by have h1:=h.shelf.len;have h2:=h.book.len;have h3:=h.table.len;have h4:=h.few;have h5:=h.book.now;exact ⟨by omega,by omega,by omega,by omega,λ_=>by omega⟩
theorem Ko (x:aj)(h:x.Names.length<2^60):mj x x=some true:=by unfold mj;rw [if_pos rfl,if_pos rfl,if_pos rfl,if_pos rfl,if_pos rfl,MW _ _ h,decide_eq_true rfl];rfl
theorem aft (x y:aC):((decide (x.Id=y.Id))&&((decide (x.Span=y.Span))&&(decide (x.cF=y.cF))))=decide (x=y):=by cases x;cases y;simp
theorem Kp (b:aK)(h:b.L.length<2^60):tC b b=some true:=by
 unfold tC;rw [if_pos rfl];have:eN b.L b.L=some true:=by
  unfold eN;rw [decide_eq_true rfl,if_neg (by decide)];have cV:Loop (ef b.L b.L) 0=some (.inl ()):=by
   refine aM.eq (aM.count (λk=>(k:Int)) b.L.length (λ_=>True) rfl trivial (λk hk _=> ?_) (λ_=> ?_))
   ·unfold ef;rw [if_pos (by omega),aP hk,aP hk,aft,decide_eq_true rfl,if_neg (by decide),wrap64 (by omega) (by omega)];exact .mk ⟨by omega,trivial⟩
   ·unfold ef;rw [if_neg (by omega)];exact .mk rfl
  rw [cV,al]
 rw [this];rfl
theorem Kq {r:au}(h:Small r)(hn:ai9 r):tE r r=some true:=by
 have h1:=h.shelf;have h2:=h.book;have h3:=h.table;have h4:=h.seen;unfold tE;rw [OJ _ _ (by omega),decide_eq_true rfl,al,if_pos rfl,Kp _ (by omega),al,if_pos rfl,abX _ _ (by omega),decide_eq_true rfl,al,if_pos rfl];have:bQ r.Seen r.Seen mj=some true:=by
  unfold bQ;rw [decide_eq_true rfl,if_neg (by decide)];have cV:Loop (bL r.Seen r.Seen mj) 0=some (.inl ()):=by
   refine aM.eq (aM.count (λk=>(k:Int)) r.Seen.length (λ_=>True) rfl trivial (λk hk _=> ?_) (λ_=> ?_))
   ·unfold bL;have:=hn _ (List.getElem_mem hk);rw [if_pos (by omega),aP hk,aP hk,Ko _ (by omega),al,if_neg (by decide),wrap64 (by omega) (by omega)];exact .mk ⟨by omega,trivial⟩
   ·unfold bL;rw [if_neg (by omega)];exact .mk rfl
  rw [cV,al]
 rw [this];rfl
def RJ:aB:=⟨1,1,1,[47,97],[120],0,0,0⟩
def RL:au:=⟨⟨[⟨[47],[],0,0⟩,⟨[47,97],[120],0,0⟩]⟩,⟨0,[]⟩,⟨[]⟩,[⟨1,1,0,[],0,[]⟩]⟩
theorem RM:iH afs RJ=(RL,⟨1,1,0,[],0,[]⟩,[]):=by decide+kernel
theorem ack:iH RL RJ=(RL,⟨1,1,0,[],0,[]⟩,[]):=by decide+kernel
theorem OW:iG RL:=by have h:=RH acj RJ;rw [RM] at h;exact h
theorem X4:fS RL.Seen 1=(⟨1,1,0,[],0,[]⟩,true):=by decide+kernel
theorem Ui:s6=some true:=by unfold s6;rw [aci,al];refine aX (FU acj RJ) ?_;rw [RM,al];refine aX (FU OW RJ) ?_;rw [ack,al,VZ OW,al,X4,Kq (RI OW) (λx hx=>by rw [c8.1 hx];exact Nat.zero_le _)];rfl
end Dn.S
