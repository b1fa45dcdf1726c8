import Derived.Test.YtbkodohojpchjaaGreatDoorDnPRealm3
/-
  Realms: the live question. Conditions: none.
-/
open Go Dn
set_option linter.unusedVariables false
set_option linter.unusedSimpArgs false
namespace Dn.S
def Zq:ak:=⟨⟨[⟨[47],[],0,0⟩]⟩,⟨0,[]⟩,⟨[]⟩,[]⟩
theorem Ww:yi=some Zq:=rfl
theorem Wx:fM Zq:=by
 refine ⟨⟨⟨by decide,⟨fun n hn=> ?_,by simp [Zq]⟩,⟨_,List.mem_singleton.2 rfl,rfl⟩,fun n hn=> ?_,fun n hn _=> ?_,fun n hn hp=> ?_⟩,⟨by decide,by decide,List.Pairwise.nil,(fun x hx=>by cases hx)⟩,⟨by decide,(fun x hx=>by cases hx),List.nodup_nil⟩⟩,List.Pairwise.nil,by decide,(fun x hx=>by cases hx)⟩
 ·rw [List.mem_singleton.1 hn]
  decide
 ·rw [List.mem_singleton.1 hn];decide
 ·rw [List.mem_singleton.1 hn]
 ·rw [List.mem_singleton.1 hn] at hp;exact absurd rfl hp
structure Small (r:ak):Prop where
 shelf:r.Shelf.L.length≤1000
 book:r.bt.L.length≤1000
 table:r.bh.L.length≤1000
 seen:r.Seen.length≤1000
 now: -10000000000≤r.bt.dE→r.bt.dE≤10000000000
def acJ (r:ak):Prop:= ∀x∈r.Seen,x.Names.length≤1000
theorem Wy {r:ak} (h:fM r):Small r:=by
 have h1:=h.shelf.len
 have h2:=h.book.len
 have h3:=h.table.len
 have h4:=h.few
 have h5:=h.book.now
 exact ⟨by omega,by omega,by omega,by omega,fun _=>by omega⟩
theorem GO (x:af) (h:x.Names.length<2^60):kU x x=some true:=by
 unfold kU
 rw [if_pos rfl,if_pos rfl,if_pos rfl,if_pos rfl,if_pos rfl,Jb _ _ h,decide_eq_true rfl];rfl
theorem Zr (x y:aw):((decide (x.Id=y.Id))&&((decide (x.Span=y.Span))&&(decide (x.cY=y.cY))))=decide (x=y):=by
 cases x;cases y;simp
theorem GP (b:aD) (h:b.L.length<2^60):rl b b=some true:=by
 unfold rl
 rw [if_pos rfl]
 have:dN b.L b.L=some true:=by
  unfold dN
  rw [decide_eq_true rfl,if_neg (by decide)]
  have fT:Loop (dr b.L b.L) 0=some (.inl ()):=by
   refine bq.eq (bq.count (fun k=>(k:Int)) b.L.length (fun _=>True) rfl trivial (fun k hk _=> ?_) (fun _=> ?_))
   ·unfold dr
    rw [if_pos (by omega),bx hk,bx hk,Zr,decide_eq_true rfl,if_neg (by decide),wrap64 (by omega) (by omega)]
    exact .mk ⟨by omega,trivial⟩
   ·unfold dr
    rw [if_neg (by omega)]
    exact .mk rfl
  rw [fT,aC]
 rw [this];rfl
theorem GQ {r:ak} (h:Small r) (hn:acJ r):rn r r=some true:=by
 have h1:=h.shelf
 have h2:=h.book
 have h3:=h.table
 have h4:=h.seen
 unfold rn
 rw [KA _ _ (by omega),decide_eq_true rfl,aC,if_pos rfl,GP _ (by omega),aC,if_pos rfl,V9 _ _ (by omega),decide_eq_true rfl,aC,if_pos rfl]
 have:bw r.Seen r.Seen kU=some true:=by
  unfold bw
  rw [decide_eq_true rfl,if_neg (by decide)]
  have fT:Loop (bp r.Seen r.Seen kU) 0=some (.inl ()):=by
   refine bq.eq (bq.count (fun k=>(k:Int)) r.Seen.length (fun _=>True) rfl trivial (fun k hk _=> ?_) (fun _=> ?_))
   ·unfold bp
    have:=hn _ (List.getElem_mem hk)
    rw [if_pos (by omega),bx hk,bx hk,GO _ (by omega),aC,if_neg (by decide),wrap64 (by omega) (by omega)]
    exact .mk ⟨by omega,trivial⟩
   ·unfold bp
    rw [if_neg (by omega)]
    exact .mk rfl
  rw [fT,aC]
 rw [this];rfl
def MQ:av:=⟨1,1,1,[47,97],[120],0,0,0⟩
def MR:ak:=⟨⟨[⟨[47],[],0,0⟩,⟨[47,97],[120],0,0⟩]⟩,⟨0,[]⟩,⟨[]⟩,[⟨1,1,0,[],0,[]⟩]⟩
theorem MU:cm Zq MQ=(MR,⟨1,1,0,[],0,[]⟩,[]):=by decide+kernel
theorem Wz:cm MR MQ=(MR,⟨1,1,0,[],0,[]⟩,[]):=by decide+kernel
theorem KH:fM MR:=by
 have h:=uF Wx MQ
 rw [MU] at h
 exact h
theorem SC:j7 MR.Seen 1=(⟨1,1,0,[],0,[]⟩,true):=by decide+kernel
theorem jL:lC=some true:=by
 unfold lC
 rw [Ww,aC]
 refine dt (Cx Wx MQ) ?_
 rw [MU,aC]
 refine dt (Cx KH MQ) ?_
 rw [Wz,aC,Qx KH,aC,SC,GQ (Wy KH) (fun x hx=>by rw [List.mem_singleton.1 hx];exact Nat.zero_le _)]
 rfl
end Dn.S
