import Derived.Test.YtbkodohojpchjaaGreatDoorDnPRealm3
/-
  Realms: the live question. Conditions: none.
-/
open Go Dn
set_option linter.unusedVariables false
set_option linter.unusedSimpArgs false
namespace Dn.S
def Ba:aq:=⟨⟨[⟨[47],[],0,0⟩]⟩,⟨0,[]⟩,⟨[]⟩,[]⟩
theorem KV:th=some Ba:=rfl
theorem IM:kf Ba:=by
 refine ⟨⟨⟨by decide,⟨fun n hn=> ?_,by simp [Ba]⟩,⟨_,List.mem_singleton.2 rfl,rfl⟩,fun n hn=> ?_,fun n hn _=> ?_,fun n hn hp=> ?_⟩,⟨by decide,by decide,List.Pairwise.nil,(fun x hx=>by cases hx)⟩,⟨by decide,(fun x hx=>by cases hx),List.nodup_nil⟩⟩,List.Pairwise.nil,by decide,(fun x hx=>by cases hx)⟩
 ·rw [List.mem_singleton.1 hn]
  decide
 ·rw [List.mem_singleton.1 hn];decide
 ·rw [List.mem_singleton.1 hn]
 ·rw [List.mem_singleton.1 hn] at hp;exact absurd rfl hp
structure Small (r:aq):Prop where
 shelf:r.Shelf.L.length≤1000
 book:r.bF.L.length≤1000
 table:r.ck.L.length≤1000
 seen:r.Seen.length≤1000
 now: -10000000000≤r.bF.fE→r.bF.fE≤10000000000
def agx (r:aq):Prop:= ∀x∈r.Seen,x.Names.length≤1000
theorem TY {r:aq} (h:kf r):Small r:=by
 have h1:=h.shelf.len
 have h2:=h.book.len
 have h3:=h.table.len
 have h4:=h.few
 have h5:=h.book.now
 exact ⟨by omega,by omega,by omega,by omega,fun _=>by omega⟩
theorem E3 (x:ai) (h:x.Names.length<2^60):kC x x=some true:=by
 unfold kC
 rw [if_pos rfl,if_pos rfl,if_pos rfl,if_pos rfl,if_pos rfl,Hg _ _ h,decide_eq_true rfl];rfl
theorem Wz (x y:ay):((decide (x.Id=y.Id))&&((decide (x.Span=y.Span))&&(decide (x.gz=y.gz))))=decide (x=y):=by
 cases x;cases y;simp
theorem E4 (b:az) (h:b.L.length<2^60):qC b b=some true:=by
 unfold qC
 rw [if_pos rfl]
 have:dv b.L b.L=some true:=by
  unfold dv
  rw [decide_eq_true rfl,if_neg (by decide)]
  have fZ:Loop (da b.L b.L) 0=some (.inl ()):=by
   refine bK.eq (bK.count (fun k=>(k:Int)) b.L.length (fun _=>True) rfl trivial (fun k hk _=> ?_) (fun _=> ?_))
   ·unfold da
    rw [if_pos (by omega),cg hk,cg hk,Wz,decide_eq_true rfl,if_neg (by decide),wrap64 (by omega) (by omega)]
    exact .mk ⟨by omega,trivial⟩
   ·unfold da
    rw [if_neg (by omega)]
    exact .mk rfl
  rw [fZ,aM]
 rw [this];rfl
theorem E5 {r:aq} (h:Small r) (hn:agx r):qE r r=some true:=by
 have h1:=h.shelf
 have h2:=h.book
 have h3:=h.table
 have h4:=h.seen
 unfold qE
 rw [IE _ _ (by omega),decide_eq_true rfl,aM,if_pos rfl,E4 _ (by omega),aM,if_pos rfl,Tw _ _ (by omega),decide_eq_true rfl,aM,if_pos rfl]
 have:bl r.Seen r.Seen kC=some true:=by
  unfold bl
  rw [decide_eq_true rfl,if_neg (by decide)]
  have fZ:Loop (bg r.Seen r.Seen kC) 0=some (.inl ()):=by
   refine bK.eq (bK.count (fun k=>(k:Int)) r.Seen.length (fun _=>True) rfl trivial (fun k hk _=> ?_) (fun _=> ?_))
   ·unfold bg
    have:=hn _ (List.getElem_mem hk)
    rw [if_pos (by omega),cg hk,cg hk,E3 _ (by omega),aM,if_neg (by decide),wrap64 (by omega) (by omega)]
    exact .mk ⟨by omega,trivial⟩
   ·unfold bg
    rw [if_neg (by omega)]
    exact .mk rfl
  rw [fZ,aM]
 rw [this];rfl
def KW:aB:=⟨1,1,1,[47,97],[120],0,0,0⟩
def KX:aq:=⟨⟨[⟨[47],[],0,0⟩,⟨[47,97],[120],0,0⟩]⟩,⟨0,[]⟩,⟨[]⟩,[⟨1,1,0,[],0,[]⟩]⟩
theorem KY:nw Ba KW=(KX,⟨1,1,0,[],0,[]⟩,[]):=by decide+kernel
theorem TZ:nw KX KW=(KX,⟨1,1,0,[],0,[]⟩,[]):=by decide+kernel
theorem IP:kf KX:=by
 have h:=Ab IM KW
 rw [KY] at h
 exact h
theorem Qh:q9 KX.Seen 1=(⟨1,1,0,[],0,[]⟩,true):=by decide+kernel
theorem MW:qa=some true:=by
 unfold qa
 rw [KV,aM]
 refine db (A9 IM KW) ?_
 rw [KY,aM]
 refine db (A9 IP KW) ?_
 rw [TZ,aM,Og IP,aM,Qh,E5 (TY IP) (fun x hx=>by rw [List.mem_singleton.1 hx];exact Nat.zero_le _)]
 rfl
end Dn.S
