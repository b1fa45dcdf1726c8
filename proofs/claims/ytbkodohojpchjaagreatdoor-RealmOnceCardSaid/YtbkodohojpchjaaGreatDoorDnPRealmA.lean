import Derived.Test.YtbkodohojpchjaaGreatDoorDnPRealm3
/-
  Realms: the live question. Conditions: none.
-/
open Go Dn
set_option linter.unusedVariables false
set_option linter.unusedSimpArgs false
namespace Dn.S
def Z4:ak:=⟨⟨[⟨[47],[],0,0⟩]⟩,⟨0,[]⟩,⟨[]⟩,[]⟩
theorem WX:yC=some Z4:=rfl
theorem WY:en Z4:=by
 refine ⟨⟨⟨by decide,⟨fun n hn=> ?_,by simp [Z4]⟩,⟨_,List.mem_singleton.2 rfl,rfl⟩,fun n hn=> ?_,fun n hn _=> ?_,fun n hn hp=> ?_⟩,⟨by decide,by decide,List.Pairwise.nil,(fun x hx=>by cases hx)⟩,⟨by decide,(fun x hx=>by cases hx),List.nodup_nil⟩⟩,List.Pairwise.nil,by decide,(fun x hx=>by cases hx)⟩
 ·rw [List.mem_singleton.1 hn]
  decide
 ·rw [List.mem_singleton.1 hn];decide
 ·rw [List.mem_singleton.1 hn]
 ·rw [List.mem_singleton.1 hn] at hp;exact absurd rfl hp
structure Small (r:ak):Prop where
 shelf:r.Shelf.L.length≤1000
 book:r.br.L.length≤1000
 table:r.bg.L.length≤1000
 seen:r.Seen.length≤1000
 now: -10000000000≤r.br.dK→r.br.dK≤10000000000
def Px (r:ak):Prop:= ∀x∈r.Seen,x.Names.length≤1000
theorem BH {r:ak} (h:en r):Small r:=by
 have h1:=h.shelf.len
 have h2:=h.book.len
 have h3:=h.table.len
 have h4:=h.few
 have h5:=h.book.now
 exact ⟨by omega,by omega,by omega,by omega,fun _=>by omega⟩
theorem GN (x:af) (h:x.Names.length<2^60):kT x x=some true:=by
 unfold kT
 rw [if_pos rfl,if_pos rfl,if_pos rfl,if_pos rfl,if_pos rfl,Jk _ _ h,decide_eq_true rfl];rfl
theorem Z5 (x y:av):((decide (x.Id=y.Id))&&((decide (x.Span=y.Span))&&(decide (x.c9=y.c9))))=decide (x=y):=by
 cases x;cases y;simp
theorem GO (b:aC) (h:b.L.length<2^60):rD b b=some true:=by
 unfold rD
 rw [if_pos rfl]
 have:dU b.L b.L=some true:=by
  unfold dU
  rw [decide_eq_true rfl,if_neg (by decide)]
  have fW:Loop (dx b.L b.L) 0=some (.inl ()):=by
   refine bu.eq (bu.count (fun k=>(k:Int)) b.L.length (fun _=>True) rfl trivial (fun k hk _=> ?_) (fun _=> ?_))
   ·unfold dx
    rw [if_pos (by omega),bt hk,bt hk,Z5,decide_eq_true rfl,if_neg (by decide),wrap64 (by omega) (by omega)]
    exact .mk ⟨by omega,trivial⟩
   ·unfold dx
    rw [if_neg (by omega)]
    exact .mk rfl
  rw [fW,aA]
 rw [this];rfl
theorem nR {r:ak} (h:Small r) (hn:Px r):kU r r=some true:=by
 have h1:=h.shelf
 have h2:=h.book
 have h3:=h.table
 have h4:=h.seen
 unfold kU
 rw [KQ _ _ (by omega),decide_eq_true rfl,aA,if_pos rfl,GO _ (by omega),aA,if_pos rfl,WB _ _ (by omega),decide_eq_true rfl,aA,if_pos rfl]
 have:bx r.Seen r.Seen kT=some true:=by
  unfold bx
  rw [decide_eq_true rfl,if_neg (by decide)]
  have fW:Loop (bp r.Seen r.Seen kT) 0=some (.inl ()):=by
   refine bu.eq (bu.count (fun k=>(k:Int)) r.Seen.length (fun _=>True) rfl trivial (fun k hk _=> ?_) (fun _=> ?_))
   ·unfold bp
    have:=hn _ (List.getElem_mem hk)
    rw [if_pos (by omega),bt hk,bt hk,GN _ (by omega),aA,if_neg (by decide),wrap64 (by omega) (by omega)]
    exact .mk ⟨by omega,trivial⟩
   ·unfold bp
    rw [if_neg (by omega)]
    exact .mk rfl
  rw [fW,aA]
 rw [this];rfl
def Na:au:=⟨1,1,1,[47,97],[120],0,0,0⟩
def Nb:ak:=⟨⟨[⟨[47],[],0,0⟩,⟨[47,97],[120],0,0⟩]⟩,⟨0,[]⟩,⟨[]⟩,[⟨1,1,0,[],0,[]⟩]⟩
theorem Nc:bk Z4 Na=(Nb,⟨1,1,0,[],0,[]⟩,[]):=by decide+kernel
theorem WZ:bk Nb Na=(Nb,⟨1,1,0,[],0,[]⟩,[]):=by decide+kernel
theorem KX:en Nb:=by
 have h:=pR WY Na
 rw [Nc] at h
 exact h
theorem SY:cW Nb.Seen 1=(⟨1,1,0,[],0,[]⟩,true):=by decide+kernel
theorem GP:lB=some true:=by
 unfold lB
 rw [WX,aA]
 refine dy (uQ WY Na) ?_
 rw [Nc,aA]
 refine dy (uQ KX Na) ?_
 rw [WZ,aA,KW KX,aA,SY,nR (BH KX) (fun x hx=>by rw [List.mem_singleton.1 hx];exact Nat.zero_le _)]
 rfl
end Dn.S
