import Derived.Test.YtbkodohojpchjaaGreatDoorDnPRealm3
/-
  Realms: the live question. Conditions: none.
-/
open Go Dn
set_option linter.unusedVariables false
set_option linter.unusedSimpArgs false
namespace Dn.S
def ng:au:=⟨⟨[⟨[47],[],0,0⟩]⟩,⟨0,[]⟩,⟨[]⟩,[]⟩
theorem JN:sG=some ng:=rfl
theorem HJ:kP ng:=by
 refine ⟨⟨⟨by decide,⟨fun n hn=> ?_,by simp [ng]⟩,⟨_,List.mem_singleton.2 rfl,rfl⟩,fun n hn=> ?_,fun n hn _=> ?_,fun n hn hp=> ?_⟩,⟨by decide,by decide,List.Pairwise.nil,(fun x hx=>by cases hx)⟩,⟨by decide,(fun x hx=>by cases hx),List.nodup_nil⟩⟩,List.Pairwise.nil,by decide,(fun x hx=>by cases hx)⟩
 ·rw [List.mem_singleton.1 hn]
  decide
 ·rw [List.mem_singleton.1 hn];decide
 ·rw [List.mem_singleton.1 hn]
 ·rw [List.mem_singleton.1 hn] at hp;exact absurd rfl hp
structure Small (r:au):Prop where
 shelf:r.Shelf.L.length≤1000
 book:r.bM.L.length≤1000
 table:r.bk.L.length≤1000
 seen:r.Seen.length≤1000
 now: -10000000000≤r.bM.fQ→r.bM.fQ≤10000000000
def afX (r:au):Prop:= ∀x∈r.Seen,x.Names.length≤1000
theorem SO {r:au} (h:kP r):Small r:=by
 have h1:=h.shelf.len
 have h2:=h.book.len
 have h3:=h.table.len
 have h4:=h.few
 have h5:=h.book.now
 exact ⟨by omega,by omega,by omega,by omega,fun _=>by omega⟩
theorem Ea (x:ai) (h:x.Names.length<2^60):kg x x=some true:=by
 unfold kg
 rw [if_pos rfl,if_pos rfl,if_pos rfl,if_pos rfl,if_pos rfl,Gh _ _ h,decide_eq_true rfl];rfl
theorem Vu (x y:ar):((decide (x.Id=y.Id))&&((decide (x.Span=y.Span))&&(decide (x.jJ=y.jJ))))=decide (x=y):=by
 cases x;cases y;simp
theorem Eb (b:aD) (h:b.L.length<2^60):pW b b=some true:=by
 unfold pW
 rw [if_pos rfl]
 have:dp b.L b.L=some true:=by
  unfold dp
  rw [decide_eq_true rfl,if_neg (by decide)]
  have iw:Loop (cV b.L b.L) 0=some (.inl ()):=by
   refine bV.eq (bV.count (fun k=>(k:Int)) b.L.length (fun _=>True) rfl trivial (fun k hk _=> ?_) (fun _=> ?_))
   ·unfold cV
    rw [if_pos (by omega),cg hk,cg hk,Vu,decide_eq_true rfl,if_neg (by decide),wrap64 (by omega) (by omega)]
    exact .mk ⟨by omega,trivial⟩
   ·unfold cV
    rw [if_neg (by omega)]
    exact .mk rfl
  rw [iw,aR]
 rw [this];rfl
theorem Ec {r:au} (h:Small r) (hn:afX r):pY r r=some true:=by
 have h1:=h.shelf
 have h2:=h.book
 have h3:=h.table
 have h4:=h.seen
 unfold pY
 rw [HF _ _ (by omega),decide_eq_true rfl,aR,if_pos rfl,Eb _ (by omega),aR,if_pos rfl,Sr _ _ (by omega),decide_eq_true rfl,aR,if_pos rfl]
 have:bl r.Seen r.Seen kg=some true:=by
  unfold bl
  rw [decide_eq_true rfl,if_neg (by decide)]
  have iw:Loop (bg r.Seen r.Seen kg) 0=some (.inl ()):=by
   refine bV.eq (bV.count (fun k=>(k:Int)) r.Seen.length (fun _=>True) rfl trivial (fun k hk _=> ?_) (fun _=> ?_))
   ·unfold bg
    have:=hn _ (List.getElem_mem hk)
    rw [if_pos (by omega),cg hk,cg hk,Ea _ (by omega),aR,if_neg (by decide),wrap64 (by omega) (by omega)]
    exact .mk ⟨by omega,trivial⟩
   ·unfold bg
    rw [if_neg (by omega)]
    exact .mk rfl
  rw [iw,aR]
 rw [this];rfl
def JO:av:=⟨1,1,1,[47,97],[120],0,0,0⟩
def JP:au:=⟨⟨[⟨[47],[],0,0⟩,⟨[47,97],[120],0,0⟩]⟩,⟨0,[]⟩,⟨[]⟩,[⟨1,1,0,[],0,[]⟩]⟩
theorem JQ:jb ng JO=(JP,⟨1,1,0,[],0,[]⟩,[]):=by decide+kernel
theorem SP:jb JP JO=(JP,⟨1,1,0,[],0,[]⟩,[]):=by decide+kernel
theorem HK:kP JP:=by
 have h:=zt HJ JO
 rw [JQ] at h
 exact h
theorem O3:qu JP.Seen 1=(⟨1,1,0,[],0,[]⟩,true):=by decide+kernel
theorem LH:pw=some true:=by
 unfold pw
 rw [JN,aR]
 refine cX (At HJ JO) ?_
 rw [JQ,aR]
 refine cX (At HK JO) ?_
 rw [SP,aR,M7 HK,aR,O3,Ec (SO HK) (fun x hx=>by rw [List.mem_singleton.1 hx];exact Nat.zero_le _)]
 rfl
end Dn.S
