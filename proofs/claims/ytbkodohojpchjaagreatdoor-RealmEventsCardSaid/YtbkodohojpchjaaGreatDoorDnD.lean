import Derived.Test.YtbkodohojpchjaaGreatDoorDnC
import Derived.Shelf.Strings.Split
import Derived.Shelf.Strings.SlTrimAscii
import Derived.Shelf.Strings.Runes
import Derived.Lib.IndexBytes
import Derived.Control
import Derived.Test.YtbkodohojpchjaaGreatDoorDnB
import Derived.LaidLaws
import Derived.Deep.DeepLaidRun
import Derived.Handed
import Derived.JoinedOf
import Derived.KernelRfl
/-
  Functions of package strings as table entries, by the shelf's contracts. Conditions: none.
-/
set_option linter.unusedSimpArgs false
set_option linter.unusedVariables false
namespace Dn
open Go
theorem N7 (c:UInt8): ∀l:List UInt8,Lib.splitK [c] 0 (Lib.count l [c]) l=du c l:=by
 intro l
 induction l with
 |nil=>rw [Lib.count_one];rfl
 |cons b l ih=>
  by_cases hb:b=c
  ·subst hb
   have Pk:Lib.index (b::l) [b]=0:=by rw [Lib.index];simp [List.isPrefixOf]
   rw [Lib.count_cons_eq,Nat.add_comm,Lib.splitK,Pk]
   simp [du,ih]
  ·rw [Lib.count_cons_ne b c l hb]
   have hp:([c]:List UInt8).isPrefixOf (b::l)=false:=by simp [List.isPrefixOf,Ne.symm hb]
   have Pk:Lib.index (b::l) [c]=if Lib.index l [c]== -1 then-1 else Lib.index l [c]+1:=by rw [Lib.index,hp];simp
   simp only [du,hb,if_false]
   rw [←ih]
   cases hk:Lib.count l [c] with
   |zero=>rfl
   |succ k=>
    have cG:Lib.index l [c]≠ -1:=by intro he;rw [Lib.count_miss he] at hk;cases hk
    have Pf:=Lib.index_ge l [c]
    obtain ⟨j,hj⟩: ∃j:Nat,Lib.index l [c]=j:=⟨(Lib.index l [c]).toNat,by omega⟩
    have Uz:(Lib.index l [c]== -1)=false:=by simpa using cG
    rw [Uz,if_neg (by decide)] at Pk
    have ae8:(Lib.index (b::l) [c]== -1)=false:=by rw [Pk,hj];simp;omega
    rw [Lib.splitK,Lib.splitK,Uz,ae8,Pk,hj]
    have e1:((j:Int)+1).toNat=j+1:=by omega
    simp [e1]
theorem N8 (c:UInt8) (s:ByteArray):(Lib.splitB ⟨#[c]⟩ 0 (Lib.countB s ⟨#[c]⟩) s).map (·.data.toList)=du c s.data.toList:=by
 rw [Lib.splitB_data]
 exact N7 c _
section
variable {P:Program} {ρ:Go.Shelf.Ren} {c:Ctx}
theorem zV {f:FuncId} {args:Array Value} {w:World} {S:Ending→World→Prop} {R:Value→World→Prop} (he: ∀args w,(callFunc f args).run P w= .ok (.enter f args) w) (hc:Calls P f args w S) (h: ∀e w',S e w'→ ∃v,e= .returned v∧R v w'):
 eU P f args w R:=by
 unfold eU
 rw [he]
 exact hc.mono h
theorem Hd {key:Nat→Nat} {φ:Ph} {v:Value} {l:List UInt8} (h:kD key φ [v] (.s l)): ∃b:ByteArray,v= .string b∧b.data.toList=l:=by
 generalize hv:[v]=vs at h
 cases h
 rename_i b
 exact ⟨b,by simpa using hv,rfl⟩
theorem MF {Z:Nat→Prop} {φ:Ph} {w:World} {k:Nat} {vs:List Value} {a b:List UInt8} (hg:c.dJ k=false) (h:eg c Z φ w k vs [.s a,.s b]): ∃x y:ByteArray,vs=[.string x,.string y]∧x.data.toList=a∧y.data.toList=b:=by
 simp only [eg,hg,Bool.false_eq_true,if_false] at h
 obtain ⟨v,u,rfl,⟨_,h1⟩,v2,u2,rfl,⟨_,h2⟩,rfl⟩:=h
 obtain ⟨x,rfl,hx⟩:=Hd h1
 obtain ⟨y,rfl,hy⟩:=Hd h2
 exact ⟨x,y,rfl,hx,hy⟩
theorem UA {Z:Nat→Prop} {φ:Ph} {w:World} {k:Nat} {kd:IntKind} {vs:List Value} {a:List UInt8} {n:Int} (hg:c.dJ k=false) (h:eg c Z φ w k vs [.s a,.i kd n]): ∃x:ByteArray,vs=[.string x,.int kd n]∧x.data.toList=a:=by
 simp only [eg,hg,Bool.false_eq_true,if_false] at h
 obtain ⟨v,u,rfl,⟨_,h1⟩,v2,u2,rfl,⟨_,h2⟩,rfl⟩:=h
 obtain ⟨x,rfl,hx⟩:=Hd h1
 generalize hv:[v2]=vs at h2
 cases h2
 simp at hv
 subst hv
 exact ⟨x,rfl,hx⟩
theorem N9 (w:World) (q:Nat):Rest w (w.drewN q):=⟨rfl,rfl,rfl,fun _=>rfl⟩
theorem Rv {φ:Ph} {w:World} (hi:xI φ w) {b:Nat} (hb:w.heap.size≤b) (off:Nat):φ b off=none:=by
 cases hp:φ b off with
 |none=>rfl
 |some u=>
  have:=World.block_lt_of_cell? w _ (hi _ _ _ hp)
  simp at this
  omega
theorem UB (L:Go.Proofs.Lays.n160 P ρ) (aa7:(P.info? (ρ.t 116)).map (fun i=>(i.zero,i.size))=some (some (.agg (Array.replicate 256 (.bool false))),256)) (hg:c.dJ (c.key (ρ.f 160))=false) {ms:List MV} {r:MV} (h:CU ms=some r):
 j8 P c (ρ.f 160) ms r:=by
 unfold CU at h
 split at h
 ·rename_i a b
  cases hb:(Nat.ble 1 a.length&&Nat.ble a.length (2^46))&&(Nat.ble 2 b.length&&(Nat.ble b.length 1000&&b.all fun x=>decide (x.toNat<128))) with
  |false=>rw [hb] at h;cases h
  |true=>
   rw [hb] at h
   simp only [cond_true,Option.some.injEq] at h
   subst h
   simp only [Bool.and_eq_true] at hb
   obtain ⟨⟨h1,h2⟩,h3,h4,h5⟩:=hb
   have h1:=Nat.le_of_ble_eq_true h1
   have h2:=Nat.le_of_ble_eq_true h2
   have h3:=Nat.le_of_ble_eq_true h3
   have h4:=Nat.le_of_ble_eq_true h4
   intro φ w Z vs hz ha hi
   obtain ⟨x,y,rfl,rfl,rfl⟩:=MF hg ha
   refine zV (Go.Proofs.enters_of L.f160 (by kernel_rfl) rfl) (Go.Proofs.Any.strings_Trim_set L (Go.zero_of_info aa7).1 (Go.zero_of_info aa7).2 x y w (by rw [Lib.size_eq];exact h3) (by rw [Lib.size_eq];omega) (by rw [Lib.size_eq];omega) (by rw [Lib.size_eq];omega) (Go.Proofs.ascii_of_all h5)) ?_
   rintro e w' ⟨rfl,q,rfl⟩
   refine ⟨_,rfl,φ,?_,?_,?_⟩
   ·have g1:=cZ.alloc w (Lib.setCells y.data.toList) (ρ.t 116)
    have g2:=cZ.alloc (w.alloc (.cells (Lib.setCells y.data.toList) (ρ.t 116))) (Lib.setCells y.data.toList) (ρ.t 116)
    have g:=g1.trans' g2
    exact ⟨.refl φ,fun b _ hl=>g.zv b hl,fun _ _ _=>rfl,g.size,g.rest.trans (N9 _ q)⟩
   ·intro b o v hv
    have g1:=cZ.alloc w (Lib.setCells y.data.toList) (ρ.t 116)
    have g2:=cZ.alloc (w.alloc (.cells (Lib.setCells y.data.toList) (ρ.t 116))) (Lib.setCells y.data.toList) (ρ.t 116)
    exact (g1.trans' g2).cell (hi b o v hv)
   ·exact ⟨rfl,by have:=kD.s (key:=c.key) (φ:=φ) (⟨(Lib.trimS x.data.toList y.data.toList).toArray⟩:ByteArray);simpa using this⟩
 ·cases h
theorem K6 (L:Go.Proofs.Lays.n151 P ρ) (hg:c.dJ (c.key (ρ.f 151))=false) {ms:List MV} {r:MV} (h:pN ms=some r):j8 P c (ρ.f 151) ms r:=by
 unfold pN at h
 split at h
 ·rename_i a n
  cases hb:decide (0≤n∧n<128) with
  |false=>rw [hb] at h;cases h
  |true=>
   rw [hb] at h
   simp only [cond_true,Option.some.injEq] at h
   subst h
   obtain ⟨h1,h2⟩:=of_decide_eq_true hb
   intro φ w Z vs hz ha hi
   obtain ⟨x,rfl,rfl⟩:=UA hg ha
   refine zV (Go.Proofs.enters_of L.f151 (by kernel_rfl) rfl) (Go.Proofs.Any.strings_ContainsRune_ascii L x n w h1 h2) ?_
   rintro e w' ⟨rfl,rfl⟩
   exact ⟨_,rfl,φ,.refl _ _ _,hi,rfl,.b _⟩
 ·cases h
open Go.Proofs Go.Shelf Go.RowKit in
theorem Oa (L:Go.Proofs.Lays.n146 P ρ) (hi9:(P.info? (ρ.t 9)).map (fun i=>(i.zero,i.size,i.bytes))=some (some (.string ByteArray.empty),1,16)) (s:ByteArray) (b:UInt8) (w:World) (hs:s.size<4294967281):
 Calls P (ρ.f 146) #[.string s,.string ⟨#[b]⟩] w fun e w'=>
  e= .returned (.slice (some ⟨w.heap.size,0,none⟩) (Lib.countB s ⟨#[b]⟩+1) (Lib.countB s ⟨#[b]⟩+1))∧w'=w.alloc (.cells ((Lib.splitB ⟨#[b]⟩ 0 (Lib.countB s ⟨#[b]⟩) s).map Value.string).toArray (ρ.t 9)):=by
 have h1:1≤(⟨#[b]⟩:ByteArray).size:=Nat.le_refl _
 have hle:=Lib.countB_le ⟨#[b]⟩ h1 s.size s (Nat.le_refl _)
 have hlen:=Lib.splitB_all ⟨#[b]⟩ h1 0 _ s rfl
 have hC:Calls P (ρ.f 138) #[.string s,.string ⟨#[b]⟩] w fun e w'=>e= .returned (.int .i64 (Lib.countB s ⟨#[b]⟩))∧w'=w:=by
  refine (Any.strings_Count_one {L with} s b w).mono fun e w' ⟨he,hw⟩=>⟨?_,hw⟩
  rw [he]
  show _=Ending.returned (Value.int .i64 ((Lib.count s.data.toList [b]:Nat):Int))
  rw [Lib.count_one]
  rfl
 have c:=Any.strings_genSplit_core {L with} hi9 s ⟨#[b]⟩ 0 (-1) (Lib.countB s ⟨#[b]⟩+1) w hs h1 (Nat.zero_le _)
  (fun x q hx=>(Any.strings_Index_one {L with} x b _).mono fun e w' ⟨he,hw⟩=>⟨by rw [he];show _=Ending.returned (Value.int .i64 (Lib.index x.data.toList [b]));rw [Lib.index_one],hw⟩)
  hC (by decide) (by decide) (by rw [if_pos (by decide)];omega)
 rw [Nat.add_sub_cancel,hlen] at c
 have e2:Lib.cellsOf (Lib.splitB ⟨#[b]⟩ 0 (Lib.countB s ⟨#[b]⟩) s) (Lib.countB s ⟨#[b]⟩+1)=((Lib.splitB ⟨#[b]⟩ 0 (Lib.countB s ⟨#[b]⟩) s).map Value.string).toArray:=by rw [←hlen];exact Lib.cellsOf_full _
 rw [e2] at c
 clear hC hlen hle e2
 have t3:=L.t3;have t9:=L.t9;have t31:=L.t31
 have a3:=L.a3;have a9:=L.a9;have a31:=L.a31
 have z3:=L.z3;have v3:=L.v3;have z9:=L.z9;have v9:=L.v9;have z31:=L.z31;have v31:=L.v31
 have aja: ∀args w,(callFunc (ρ.f 221) args).run P w= .ok (.enter (ρ.f 221) args) w:=enters_of L.f221 (by kernel_rfl) rfl
 go_enter L.f146,Body.n146_ntmps ρ
 go_wp2_with (go_at_fn (ρ.f 221);refine c.mono ?_;rintro e w' ⟨rfl,hw⟩;rw [hw])
 go_ret
 exact ⟨rfl,rfl⟩
theorem CV {key:Nat→Nat} {φ:Ph}: ∀l:List ByteArray,aS key φ 1 (l.map Value.string) (l.map fun b=>MV.s b.data.toList)
 |[]=>rfl
 |b::l=>⟨[.string b],_,rfl,rfl,.s b,CV l⟩
theorem Rw {I:TI} (L:Go.Proofs.Lays.n146 P ρ) (hi9:(P.info? (ρ.t 9)).map (fun i=>(i.zero,i.size,i.bytes))=some (some (.string ByteArray.empty),1,16)) (hg:c.dJ (c.key (ρ.f 146))=false)
 (iD:c.qv (c.key (ρ.f 146))=ρ.t 9) (hI:c.tv (ρ.t 9)=some I) (JV:I.size=1) {ms:List MV} {r:MV} (h:vv ms=some r):j8 P c (ρ.f 146) ms r:=by
 unfold vv at h
 split at h
 ·rename_i a b
  cases hb:Nat.ble a.length 4294967280 with
  |false=>rw [hb] at h;cases h
  |true=>
   rw [hb] at h
   simp only [cond_true,Option.some.injEq] at h
   subst h
   have hb:=Nat.le_of_ble_eq_true hb
   intro φ w Z vs hz ha hi
   obtain ⟨x,y,rfl,rfl,hy⟩:=MF hg ha
   have hy':y=⟨#[b]⟩:=by
    cases y with
    |mk d=>congr 1;apply Array.toList_inj.1;exact hy
   subst hy'
   have hs:x.size<4294967281:=by rw [Lib.size_eq];omega
   refine zV (Go.Proofs.enters_of L.f146 (by kernel_rfl) rfl) (Oa L hi9 x b w hs) ?_
   rintro e w' ⟨rfl,rfl⟩
   have h1:1≤(⟨#[b]⟩:ByteArray).size:=Nat.le_refl _
   have hle:=Lib.countB_le ⟨#[b]⟩ h1 x.size x (Nat.le_refl _)
   have hlen:=Lib.splitB_all ⟨#[b]⟩ h1 0 _ x rfl
   have iB:=N8 b x
   have g1:=cZ.alloc w ((Lib.splitB ⟨#[b]⟩ 0 (Lib.countB x ⟨#[b]⟩) x).map Value.string).toArray (ρ.t 9)
   obtain ⟨qw,hc⟩:=bD hI
   refine ⟨_,rfl,φ,g1.trans (Z:=bw.plain Z) hz φ,fun b' o v hv=>g1.cell (hi b' o v hv),?_⟩
   show cF _ _ _ _ _ ⟨c.qv (c.key (ρ.f 146)),false,_⟩
   rw [iD]
   generalize hpc:Lib.splitB ⟨#[b]⟩ 0 (Lib.countB x ⟨#[b]⟩) x=pcs at *
   rw [←iB,List.map_map]
   refine ⟨I,pcs.map Value.string,qw,hc,?_,by rw [JV];exact CV pcs,?_⟩
   ·rw [JV]
    refine ⟨by simp,.inr ⟨w.heap.size,Lib.countB x ⟨#[b]⟩+1,_,by simp [hlen],Nat.zero_le _,jF w _,by simp [hlen],by unfold Go.maxLen;rw [Lib.size_eq] at hle;omega,by simp [hlen],?_⟩⟩
    simp [List.take_of_length_le]
   ·intro aX iM
    simp [Value.ownBlock] at iM
    subst iM
    exact ⟨hz _ (Nat.le_refl _),fun off u hu=>(by have hu:φ w.heap.size off=some u:=hu;rw [Rv hi (Nat.le_refl _)] at hu;cases hu),fun hc=>False.elim hc⟩
 ·cases h
end
end Dn
/-
  slices.IndexFunc and slices.DeleteFunc of the library, walked, with whatever function. Conditions: none.
-/
set_option linter.unusedSimpArgs false
set_option linter.unusedVariables false
namespace Dn
open Go
section
variable {P:Program} {Q:Exit→Act→World→Prop} {ops:Array Oper} {o:Oper} {a:Act} {w w':World} {n:Nat} {σ:Nat→Value}
theorem tm2 (v0 v1:Value) (k:Nat):Tm {tmps:= #[v0,v1]++Array.replicate k undef,defers:=[]} (k+2) (vp (vp (fun _=>undef) 0 v0) 1 v1):=by
 refine ⟨rfl,by simp [Nat.add_comm],fun q=> ?_⟩
 by_cases h0:q=0
 ·subst h0;show (#[v0,v1]++Array.replicate k undef).getD 0 undef=v0;simp [Array.getElem?_append]
 by_cases h1:q=1
 ·subst h1;show (#[v0,v1]++Array.replicate k undef).getD 1 undef=v1;simp [Array.getElem?_append]
 have e: ∀{x y:Nat},x≠y→Nat.beq x y=false:=fun {x y} h=>by
  cases hq:Nat.beq x y with
  |false=>rfl
  |true=>exact absurd (Nat.eq_of_beq_eq_true hq) h
 simp only [vp,e h0,e h1,cond_false]
 have h3:2≤q:=by omega
 simp [Array.getElem?_append,Array.getElem?_replicate,show¬q<2 by omega]
 by_cases hk:q-2<k<;>simp [hk]
theorem Tm.call {i d:Nat} {op:Op} {rest:List Nat} {f:Nat} {args:Array Value} {Rp:Value→World→Prop} (ay:Tm a n σ) (hi:ops[i]? =some o) (ho:aI o d op) (hd:d<n)
 (bH:(execOp (ev σ) o).run P w=(callFunc f args).run P w) (hc:eU P f args w Rp) (h: ∀v w' a',Rp v w'→Tm a' n (vp σ d v)→wpOps P ops Q rest a' w'):wpOps P ops Q (i::rest) a w:=by
 rw [wpOps_cons]
 unfold wpOp
 simp only [hi,Region.wanted,ho.guard,if_true]
 left
 refine sm (by rw [ay.eval];exact bH) hc ?_
 intro v w' hr
 rw [ho.dst]
 exact h v w' _ hr (ay.put hd v)
theorem He {d:Nat} {t el:TypeId} {x y:Operand} {e:Operand→Value} {g n c j size:Nat} {i:TypeInfo} (ho:aI o d (.indexAddr t x y)) (hu:P.underlying t=some (.slice el)) (hi:P.info? el=some i) (hs:i.size=size)
 (hx:e x= .slice (some ⟨g,0,none⟩) n c) (hy:e y= .int .i64 ((j:Nat):Int)) (hj:j<n) (w:World):(execOp e o).run P w= .ok (.value (.pointer (some ⟨g,j *size,none⟩))) w:=by
 have h2: ¬n≤j:=by omega
 simp [execOp,ho.op,hx,hy,Instr.indexAt,asIntOf,run_underlying hu,h2,Go.sizeOf,typeInfo,hi,hs,Addr.add_mid]
theorem BP {c:Ctx} {d:Nat} {t:TypeId} {I:TI} {x:Operand} {e:Operand→Value} {g off:Nat} {vs:List Value} (ho:aI o d (.load t x)) (hr:mf c.ti P t I) (hc:I.cq=[]) (dH:I.st=true) (hl:vs.length=I.size)
 (hx:e x= .pointer (some ⟨g,off,none⟩)) (hm:w.rangeAt g off vs):(execOp e o).run P w= .ok (.value (.agg vs.toArray)) w:=by
 rcases my (P:=P) hr hc hl hm with ⟨_,h⟩|⟨h,_⟩
 ·have:=h w hm
  simp [execOp,ho.op,hx,this]
 ·rw [dH] at h;cases h
theorem UC {d:Nat} {t:TypeId} {e:Operand→Value} {i:TypeInfo} {z:Value} (ho:aI o d (.alloc t)) (hi:P.info? t=some i) (hz:i.zero=some z) (w:World):
 (execOp e o).run P w= .ok (.value (.pointer (some ⟨w.heap.size,0,none⟩))) (w.alloc (.cells z.cells t)):=by
 simp [execOp,ho.op,Instr.alloc,zeroValue,typeInfo,hi,hz,newVar,newRow,newObj,Sem.run]
theorem MG {c:Ctx} {t:TypeId} {I:TI} {x y:Operand} {e:Operand→Value} {g off:Nat} {v:Value} {arr:Array Value} {T:TypeId} (ho:AV o (.store t x y)) (hr:mf c.ti P t I) (hc:I.cq=[]) (hx:e x= .pointer (some ⟨g,off,none⟩)) (hy:e y=v)
 (hs:v.cells.toList.length=I.size) (gU: ∀u∈v.cells.toList,u.oneCell'=true) (cB:w.heap[g]? =some (.cells arr T (0,0))) (vf:off+I.size≤arr.size):
 (execOp e o).run P w= .ok .skip (w.setRow g (arr.toList.take off++v.cells.toList++arr.toList.drop (off+I.size)).toArray):=by
 have:=lC (P:=P) (w:=w) hr hc hs gU cB vf
 simp [execOp,ho.op,hx,hy,this]
theorem Tm.Wl {i:Nat} {op:Op} {rest:List Nat} (ay:Tm a n σ) (hi:ops[i]? =some o) (ho:AV o op) (bH:(execOp (ev σ) o).run P w= .ok .skip w')
 (h:wpOps P ops Q rest a w'):wpOps P ops Q (i::rest) a w:=by
 rw [wpOps_cons]
 unfold wpOp
 simp only [hi,Region.wanted,ho.guard,if_true]
 left
 unfold Oper.wp
 rw [ay.eval,bH]
 simp only [Oper.upon]
 rw [ho.dst]
 exact h
theorem Ja {d:Nat} {t t':TypeId} {x y:Operand} {e:Operand→Value} {p q:Int} (ho:aI o d (.binOp .lss t x y t')) (hx:e x= .int .i64 p) (hy:e y= .int .i64 q) (w:World):
 (execOp e o).run P w= .ok (.value (.bool (decide (p<q)))) w:=vq ho hx hy (fun w=>by simp [Go.binOp,Op.intCmp]) w
theorem MH {d:Nat} {x y:Operand} {t:Array TypeId} {e:Operand→Value} {g:Nat} {lb:Array Value} {v:Value} (ho:aI o d (.call {callee:= .value x,args:= #[y],argTypes:=t})) (hx:e x= .func (.func g) #[] lb) (hy:e y=v) (w:World):
 (execOp e o).run P w=(callFunc g (#[v]++lb)).run P w:=by
 simp [execOp,ho.op,resolve,invoke,hx,hy,Deferred.ofValue]
theorem UD {d:Nat} {x y:Operand} {t:Array TypeId} {e:Operand→Value} {g:Nat} {v u:Value} (ho:aI o d (.call {callee:= .value (.func g),args:= #[x,y],argTypes:=t})) (he:e (.func g)= .func (.func g) #[] #[]) (hx:e x=v) (hy:e y=u) (w:World):
 (execOp e o).run P w=(callFunc g #[v,u]).run P w:=by
 simp [execOp,ho.op,resolve,invoke,he,hx,hy,Deferred.ofValue]
end
def Hf (r:Nat→Nat) (o:Nat→Oper):Code:=
 .seq (.region (r 0) #[o 0] false) (.seq (.seq (.region (r 1) #[o 1,o 2,o 3] false) (.block 0 (.loop (.seq (.region (r 2) #[o 4] false) (.seq (.cond (.tmp 9) .skip (.exit 0)) (.seq (.block 1 (.seq (.region (r 3) #[o 5,o 6] false) (.seq (.region (r 4) #[o 7,o 8,o 9,o 10,o 11,o 12] false) (.cond (.tmp 16) (.seq (.region (r 5) #[o 13,o 14] false) .ret) .skip)))) (.region (r 6) #[o 15,o 16] false))))))) (.seq (.region (r 7) #[o 17] false) .ret))
structure X0 (t el ti:Nat) (o:Nat→Oper):Prop where
 h0:aI (o 0) 4 (.assign (.const (.int .i64 0)))
 h1:aI (o 1) 6 (.move (.tmp 0))
 h2:aI (o 2) 7 (.call {callee:= .builtin .len,args:= #[.tmp 6],argTypes:= #[t]})
 h3:aI (o 3) 8 (.move (.const (.int .i64 0)))
 h4:aI (o 4) 9 (.binOp .lss ti (.tmp 8) (.tmp 7) ti)
 h5:aI (o 5) 10 (.move (.tmp 8))
 h6:aI (o 6) 5 (.assign (.tmp 10))
 h7:aI (o 7) 11 (.move (.tmp 1))
 h8:aI (o 8) 12 (.move (.tmp 0))
 h9:aI (o 9) 13 (.move (.tmp 5))
 Mk:aI (o 10) 14 (.indexAddr t (.tmp 12) (.tmp 13))
 KW:aI (o 11) 15 (.load el (.tmp 14))
 KX:aI (o 12) 16 (.call {callee:= .value (.tmp 11),args:= #[.tmp 15],argTypes:= #[el]})
 KY:aI (o 13) 17 (.move (.tmp 5))
 KZ:aI (o 14) 4 (.assign (.tmp 17))
 K0:aI (o 15) 18 (.binOp .add ti (.tmp 8) (.const (.int .i64 1)) ti)
 K1:aI (o 16) 8 (.move (.tmp 18))
 Rf:aI (o 17) 4 (.assign (.const (.int .i64 (-1))))
structure Rx (P:Program) (f t ti el:Nat) (fn:Func) (r:Nat→Nat) (o:Nat→Oper):Prop where
 pos:P.funcs[f]? =some fn
 name:(fn.name== "runtime.NumGoroutine")=false
 tmps:fn.ntmps=19
 res:fn.results= #[.tmp 4]
 body:fn.body=some (Hf r o)
 ops:X0 t el ti o
 s5:P.underlying t=some (.slice el)
theorem Hg {P:Program} {fn:Func} {n:Nat} {a:Act} {w:World} {σ:Nat→Value} {R:Ending→World→Prop} {v:Value} (hr:fn.results= #[.tmp 4]) (ay:Tm a n σ) (h6:σ 4=v) (h:R (.returned v) w):bodyPost P fn R .ret a w:=by
 refine ⟨ay.defers,v,?_,h⟩
 have h2:a.tmps[4]?.getD undef=v:=by have:=ay.get 4;rw [h6] at this;simpa using this
 simp [results,hr,h2]
theorem Jb {key:Nat→Nat} {φ:Ph} {size:Nat} {xs:List MV} {cells:List Value} (h:aS key φ size cells xs) {k:Nat} (hk:k<xs.length):
 ((cells.drop (k *size)).take size).length=size∧kD key φ ((cells.drop (k *size)).take size) xs[k]:=by
 obtain ⟨p1,v1,p2,he,BK,uU,ef⟩:=h.at (List.getElem?_eq_getElem hk)
 have:(cells.drop (k *size)).take size=v1:=by
  rw [he,List.append_assoc,←BK,List.drop_left,←uU,List.take_left]
 rw [this]
 exact ⟨uU,ef⟩
theorem CW {key:Nat→Nat} {φ:Ph} {vs:List Value} {x:MV} (h:kD key φ vs x) {ms:List MV} (hx:x= .agg ms):eB key φ (.agg vs.toArray) x:=by
 subst hx
 cases h with
 |agg _ _ h=>exact ⟨vs.toArray,rfl,by simpa using h⟩
section
variable {P:Program} {c:Ctx} {f t ti el:Nat} {fn:Func} {r:Nat→Nat} {o:Nat→Oper} {E:TI} {n cp g0 g:Nat} {ad:Option Addr} {ob:Option Nat} {w:World} {lb:Array Value} {S:Type} {Inv:S→(Nat→Prop)→Ph→World→Prop} {step:S→MV→Option (Bool×S)}
theorem Ry (hf:Rx P f t ti el fn r o) (hp:tA P c g lb Inv step) (hT:j6 P c.ti) (hE:c.tv el=some E) (dH:E.st=true) {xs:List MV} {cells:List Value} {cM:Array Value} {T:TypeId} {φ0:Ph} {Z0:Nat→Prop} {s0 s':S} {ys:List MV}
 (CL: ∀x∈xs,∃ms,x= .agg ms) (Im:0<xs.length→ad=some ⟨g0,0,none⟩∧ob=some g0∧w.heap[g0]? =some (.cells cM T (0,0))∧cM.toList.take (xs.length *E.size)=cells) (Pg: ∀b,ob=some b→ ¬Z0 b∧b<w.heap.size∧ ∀off,φ0 b off=none)
 (gQ:aS c.key φ0 E.size cells xs) (aa8:xs.length<2^63) (hinv:Inv s0 Z0 φ0 w) (jX: ∀b,w.heap.size≤b→Z0 b) (iC:xI φ0 w) (hd:lj step s0 xs=some (ys,s')):
 Calls P f #[.slice ad xs.length cp,.func (.func g) #[] lb] w fun e W=> ∃Z φ,(∀b,ob=some b→W.heap[b]? =w.heap[b]?)∧
  ((e= .returned (.int .i64 (-1))∧ys=xs∧wM c ob Inv Z0 φ0 w s' Z φ W)∨
   ∃k,∃hk:k<xs.length,∃sk,e= .returned (.int .i64 (k:Int))∧lj step s0 (xs.take (k+1))=some (xs.take k,sk)∧wM c ob Inv Z0 φ0 w sk Z φ W):=by
 obtain ⟨mn,nq⟩:=bD hE
 obtain ⟨ie,z,na,rI,Nt,Uq,HQ⟩:=nu (hT _ E mn) nq
 refine calls_of_wp hf.pos hf.body ?_
 rw [hf.tmps]
 generalize Jc:(fun (e:Ending) (W:World)=> ∃Z φ,(∀b,ob=some b→W.heap[b]? =w.heap[b]?)∧
  ((e= .returned (.int .i64 (-1))∧ys=xs∧wM c ob Inv Z0 φ0 w s' Z φ W)∨
   ∃k,∃hk:k<xs.length,∃sk,e= .returned (.int .i64 (k:Int))∧lj step s0 (xs.take (k+1))=some (xs.take k,sk)∧wM c ob Inv Z0 φ0 w sk Z φ W))=X1
 have key: ∀a:Act,Tm a 19 (vp (vp (fun _=>undef) 0 (.slice ad xs.length cp)) 1 (.func (.func g) #[] lb))→(Hf r o).wp P (bodyPost P fn X1) a w:=by
  intro a ay
  unfold Hf
  refine wp_seq (wp_region ?_)
  rw [show List.range (#[o 0]:Array Oper).size=[0] from rfl]
  refine ay.step (v:= .int .i64 0) rfl hf.ops.h0 (by decide) (cv hf.ops.h0 _) (fun a ay=> ?_)
  refine wp_seq (wp_seq (wp_region ?_))
  rw [show List.range (#[o 1,o 2,o 3]:Array Oper).size=[0,1,2] from rfl]
  refine ay.step (v:= .slice ad xs.length cp) rfl hf.ops.h1 (by decide) (aH hf.ops.h1 _) (fun a ay=> ?_)
  refine ay.step (v:= .int .i64 ((xs.length:Nat):Int)) rfl hf.ops.h2 (by decide) (lE hf.ops.h2 hf.s5 rfl _) (fun a ay=> ?_)
  refine ay.step (v:= .int .i64 0) rfl hf.ops.h3 (by decide) (aH hf.ops.h3 _) (fun a ay=> ?_)
  refine wp_block (wp_loop (fun a W=> ∃σ,Tm a 19 σ∧σ 0= .slice ad xs.length cp∧σ 1= .func (.func g) #[] lb∧σ 7= .int .i64 ((xs.length:Nat):Int)∧ ∃k:Nat,k≤xs.length∧σ 8= .int .i64 (k:Int)∧
   (∀b,ob=some b→W.heap[b]? =w.heap[b]?)∧ ∃s Z φ,lj step s0 (xs.take k)=some (xs.take k,s)∧wM c ob Inv Z0 φ0 w s Z φ W)
   (fun a W=>match a.tmps.getD 8 undef with| .int _ k=>xs.length-k.toNat|_=>0) ?_ ?_)
  ·refine ⟨_,ay,rfl,rfl,rfl,0,Nat.zero_le _,rfl,fun _ _=>rfl,s0,Z0,φ0,rfl,⟨hinv,jX,fun b hb=> .inl hb,iC,.refl _ _ _,fun b off hb=>(Pg b hb).2.2 off⟩⟩
  ·clear ay
   rintro a W ⟨σ,ay,h0,h1,h7,k,hk,h8,yG,s,Z,φ,Wm,hW⟩
   refine wp_seq (wp_region ?_)
   rw [show List.range (#[o 4]:Array Oper).size=[0] from rfl]
   have hm8:(match a.tmps.getD 8 undef with| .int _ k=>xs.length-k.toNat|_=>0)=xs.length-k:=by rw [ay.get 8,h8];simp
   rw [hm8]
   clear hm8
   refine ay.step (v:= .bool (decide ((k:Int)<(xs.length:Int)))) rfl hf.ops.h4 (by decide) (Ja hf.ops.h4 h8 h7 _) (fun a ay=> ?_)
   refine wp_seq ?_
   by_cases dx:k<xs.length
   rotate_left
   ·refine ay.cond (b:=false) (by show Value.bool (decide ((k:Int)<(xs.length:Int)))=_;rw [decide_eq_false (by omega)]) ?_
    simp only [Bool.false_eq_true,if_false]
    refine wp_exit ?_
    have Y5:k=xs.length:=by omega
    subst Y5
    rw [List.take_length] at Wm
    rw [hd] at Wm
    simp only [Option.some.injEq,Prod.mk.injEq] at Wm
    obtain ⟨rfl,rfl⟩:=Wm
    show Exit.then _ _ _ _ _
    refine wp_seq (wp_region ?_)
    rw [show List.range (#[o 17]:Array Oper).size=[0] from rfl]
    refine ay.step (v:= .int .i64 (-1)) rfl hf.ops.Rf (by decide) (cv hf.ops.Rf _) (fun a ay=> ?_)
    refine wp_ret ?_
    refine Hg hf.res ay (v:= .int .i64 (-1)) rfl ?_
    rw [←Jc]
    exact ⟨Z,φ,yG,.inl ⟨rfl,rfl,hW⟩⟩
   ·refine ay.cond (b:=true) (by show Value.bool (decide ((k:Int)<(xs.length:Int)))=_;rw [decide_eq_true (by omega)]) ?_
    simp only [if_true]
    refine wp_skip ?_
    obtain ⟨X2,NJ,cB,bh⟩:=Im (by omega)
    have h0':=h0
    rw [X2] at h0'
    obtain ⟨yk,sk,b,Ui,e1,e2,e3⟩:=Mq hd dx
    rw [Wm] at e1
    simp only [Option.some.injEq,Prod.mk.injEq] at e1
    obtain ⟨rfl,rfl⟩:=e1
    have Rz:=gQ.mono hW.tr.ph
    obtain ⟨hl,ef⟩:=Jb Rz dx
    have X3:W.rangeAt g0 (k *E.size) ((cells.drop (k *E.size)).take E.size):=by
     intro j v hj
     have Eh:j<E.size:=by have:=(List.getElem?_eq_some_iff.1 hj).1;omega
     have hW0:W.heap[g0]? =some (.cells cM T (0,0)):=(yG g0 NJ).trans cB
     rw [cell_of hW0,←Array.getElem?_toList]
     rw [List.getElem?_take_of_lt Eh,List.getElem?_drop,←bh,List.getElem?_take] at hj
     split at hj
     ·exact hj
     ·cases hj
    obtain ⟨ms,Iv⟩:=CL _ (List.getElem_mem dx)
    have KU:eB c.key φ (.agg ((cells.drop (k *E.size)).take E.size).toArray) xs[k]:=CW ef Iv
    refine wp_seq (wp_block ?_)
    refine wp_seq (wp_region ?_)
    rw [show List.range (#[o 5,o 6]:Array Oper).size=[0,1] from rfl]
    refine ay.step (v:= .int .i64 (k:Int)) rfl hf.ops.h5 (by decide) ((aH hf.ops.h5 _).trans (by show Result.ok (Next.value (σ 8)) W=_;rw [h8])) (fun a ay=> ?_)
    refine ay.step (v:= .int .i64 (k:Int)) rfl hf.ops.h6 (by decide) (cv hf.ops.h6 _) (fun a ay=> ?_)
    refine wp_seq (wp_region ?_)
    rw [show List.range (#[o 7,o 8,o 9,o 10,o 11,o 12]:Array Oper).size=[0,1,2,3,4,5] from rfl]
    refine ay.step (v:= .func (.func g) #[] lb) rfl hf.ops.h7 (by decide) ((aH hf.ops.h7 _).trans (by show Result.ok (Next.value (σ 1)) W=_;rw [h1])) (fun a ay=> ?_)
    refine ay.step (v:= .slice (some ⟨g0,0,none⟩) xs.length cp) rfl hf.ops.h8 (by decide) ((aH hf.ops.h8 _).trans (by show Result.ok (Next.value (σ 0)) W=_;rw [h0'])) (fun a ay=> ?_)
    refine ay.step (v:= .int .i64 (k:Int)) rfl hf.ops.h9 (by decide) (aH hf.ops.h9 _) (fun a ay=> ?_)
    refine ay.step rfl hf.ops.Mk (by decide) (He hf.ops.Mk hf.s5 na rI rfl rfl dx _) (fun a ay=> ?_)
    refine ay.step rfl hf.ops.KW (by decide) (BP hf.ops.KW (hT _ E mn) nq dH hl rfl X3) (fun a ay=> ?_)
    refine ay.call rfl hf.ops.KX (by decide) (MH hf.ops.KX rfl rfl _) (hp.call hW.inv hW.new hW.mZ KU e2) ?_
    rintro v W2 a ⟨rfl,φ',t1,t2,t3⟩ ay
    have S7: ∀b,ob=some b→ ¬Z b:=fun b hb hz=>by
     have:=Pg b hb
     rcases hW.sub _ hz with h|h
     ·exact this.1 h
     ·omega
    have L4: ∀b,ob=some b→W2.heap[b]? =w.heap[b]? :=fun b hb=>(t1.heap b (S7 b hb) (Nat.lt_of_lt_of_le (Pg b hb).2.1 hW.tr.size)).trans (yG b hb)
    have N4:wM c ob Inv Z0 φ0 w Ui Z φ' W2:=⟨t3,fun b hb=>hW.new b (Nat.le_trans t1.size hb),hW.sub,t2,hW.tr.trans (t1.sup fun b hb=> .inl (hW.sub b hb)),fun b off hb=>by rw [t1.free b off (S7 b hb)];exact hW.free b off hb⟩
    cases b with
    |true=>
     refine ay.cond (b:=true) rfl ?_
     simp only [if_true]
     refine wp_seq (wp_region ?_)
     rw [show List.range (#[o 13,o 14]:Array Oper).size=[0,1] from rfl]
     refine ay.step (v:= .int .i64 (k:Int)) rfl hf.ops.KY (by decide) (aH hf.ops.KY _) (fun a ay=> ?_)
     refine ay.step (v:= .int .i64 (k:Int)) rfl hf.ops.KZ (by decide) (cv hf.ops.KZ _) (fun a ay=> ?_)
     refine wp_ret ?_
     refine Hg hf.res ay (v:= .int .i64 (k:Int)) rfl ?_
     rw [←Jc]
     exact ⟨Z,φ',L4,.inr ⟨k,dx,Ui,rfl,e3,N4⟩⟩
    |false=>
     refine ay.cond (b:=false) rfl ?_
     simp only [Bool.false_eq_true,if_false]
     refine wp_skip ?_
     show Code.wp P (Code.region (r 6) #[o 15,o 16] false) _ a W2
     refine wp_region ?_
     rw [show List.range (#[o 15,o 16]:Array Oper).size=[0,1] from rfl]
     refine ay.step (v:= .int .i64 ((k+1:Nat):Int)) rfl hf.ops.K0 (by decide) (jh (q:=1) hf.ops.K0 h8 rfl (by omega) _) (fun a ay=> ?_)
     refine ay.step (v:= .int .i64 ((k+1:Nat):Int)) rfl hf.ops.K1 (by decide) (aH hf.ops.K1 _) (fun a ay=> ?_)
     refine ⟨⟨_,ay,h0,h1,h7,k+1,by omega,rfl,L4,Ui,Z,φ',?_,N4⟩,?_⟩
     ·rw [e3]
      have e4:xs.take (k+1)=xs.take k++[xs[k]]:=by rw [List.take_add_one,List.getElem?_eq_getElem dx];rfl
      rw [e4];rfl
     ·have:a.tmps.getD 8 undef= .int .i64 ((k+1:Nat):Int):=by rw [ay.get 8];rfl
      rw [this]
      simp
      omega
 exact key _ (tm2 _ _ 17)
end
end Dn
/-
  slices.DeleteFunc of the library, walked, with whatever function. Conditions: none.
-/
set_option linter.unusedSimpArgs false
set_option linter.unusedVariables false
namespace Dn
open Go
theorem vw {P:Program} {f:Nat} {fn:Func} {b:Code} {args:Array Value} {w:World} {R:Value→World→Prop} (dS:P.funcs[f]? =some fn) (yC:(fn.name== "runtime.NumGoroutine")=false) (n0:fn.body=some b)
 (h:Calls P f args w fun e W=> ∃v,e= .returned v∧R v W):eU P f args w R:=by
 have bH:(callFunc f args).run P w= .ok (.enter f args) w:=by
  have B9: ¬fn.name= "runtime.NumGoroutine" :=by simpa using yC
  simp [callFunc,dS,B9,n0]
 unfold eU
 rw [bH]
 exact h
def CX (r:Nat→Nat) (o:Nat→Oper):Code:=
 .seq (.region (r 0) #[o 0] false) (.seq (.region (r 1) #[o 1,o 2,o 3,o 4] false) (.seq (.seq (.region (r 2) #[o 5,o 6] false) (.cond (.tmp 12) (.seq (.region (r 3) #[o 7,o 8] false) .ret) .skip)) (.seq (.seq (.region (r 4) #[o 9,o 10,o 11] false) (.block 0 (.loop (.seq (.seq (.region (r 5) #[o 12,o 13,o 14,o 15] false) (.cond (.tmp 19) .skip (.exit 0))) (.seq (.block 1 (.seq (.region (r 6) #[o 16,o 17,o 18,o 19,o 20,o 21] false) (.seq (.region (r 7) #[o 22,o 23,o 24,o 25] false) (.cond (.tmp 29) (.seq (.region (r 8) #[o 26,o 27,o 28,o 29,o 30] false) (.region (r 9) #[o 31,o 32,o 33] false)) .skip)))) (.region (r 10) #[o 34,o 35,o 36] false)))))) (.seq (.region (r 11) #[o 37,o 38,o 39,o 40] false) (.seq (.region (r 12) #[o 41,o 42,o 43,o 44] false) .ret)))))
structure UE (t el ti tb fu fi:Nat) (o:Nat→Oper):Prop where
 h0:aI (o 0) 4 (.assign (.const (.slice none 0 0)))
 h1:aI (o 1) 8 (.move (.tmp 0))
 h2:aI (o 2) 9 (.move (.tmp 1))
 h3:aI (o 3) 10 (.call {callee:= .value (.func fi),args:= #[.tmp 8,.tmp 9],argTypes:= #[t,fu]})
 h4:aI (o 4) 5 (.assign (.tmp 10))
 h5:aI (o 5) 11 (.move (.tmp 5))
 h6:aI (o 6) 12 (.binOp .eql ti (.tmp 11) (.const (.int .i64 (-1))) ti)
 h7:aI (o 7) 13 (.move (.tmp 0))
 h8:aI (o 8) 4 (.assign (.tmp 13))
 h9:aI (o 9) 14 (.move (.tmp 5))
 Mk:aI (o 10) 15 (.binOp .add ti (.tmp 14) (.const (.int .i64 1)) ti)
 KW:aI (o 11) 6 (.assign (.tmp 15))
 KX:aI (o 12) 16 (.move (.tmp 6))
 KY:aI (o 13) 17 (.move (.tmp 0))
 KZ:aI (o 14) 18 (.call {callee:= .builtin .len,args:= #[.tmp 17],argTypes:= #[t]})
 K0:aI (o 15) 19 (.binOp .lss ti (.tmp 16) (.tmp 18) ti)
 K1:aI (o 16) 22 (.move (.tmp 0))
 Rf:aI (o 17) 23 (.move (.tmp 6))
 Wb:aI (o 18) 24 (.indexAddr t (.tmp 22) (.tmp 23))
 Wc:aI (o 19) 25 (.load el (.tmp 24))
 Wd:aI (o 20) 7 (.alloc el)
 S9:AV (o 21) (.store el (.tmp 7) (.tmp 25))
 Ta:aI (o 22) 26 (.move (.tmp 1))
 Tb:aI (o 23) 27 (.load el (.tmp 7))
 Tc:aI (o 24) 28 (.call {callee:= .value (.tmp 26),args:= #[.tmp 27],argTypes:= #[el]})
 Td:aI (o 25) 29 (.unOp .not tb (.tmp 28))
 Te:aI (o 26) 30 (.move (.tmp 0))
 We:aI (o 27) 31 (.move (.tmp 5))
 Wf:aI (o 28) 32 (.load el (.tmp 7))
 Wg:aI (o 29) 33 (.indexAddr t (.tmp 30) (.tmp 31))
 Rg:AV (o 30) (.store el (.tmp 33) (.tmp 32))
 h31:aI (o 31) 34 (.move (.tmp 5))
 h32:aI (o 32) 35 (.binOp .add ti (.tmp 34) (.const (.int .i64 1)) ti)
 h33:aI (o 33) 5 (.assign (.tmp 35))
 XS:aI (o 34) 20 (.move (.tmp 6))
 XT:aI (o 35) 21 (.binOp .add ti (.tmp 20) (.const (.int .i64 1)) ti)
 XU:aI (o 36) 6 (.assign (.tmp 21))
 h37:aI (o 37) 36 (.move (.tmp 0))
 h38:aI (o 38) 37 (.move (.tmp 5))
 h39:aI (o 39) 38 (.slice t (.tmp 36) (some (.tmp 37)) none none)
 h40:AV (o 40) (.call {callee:= .builtin .clear,args:= #[.tmp 38],argTypes:= #[t]})
 h41:aI (o 41) 39 (.move (.tmp 0))
 h42:aI (o 42) 40 (.move (.tmp 5))
 h43:aI (o 43) 41 (.slice t (.tmp 39) none (some (.tmp 40)) none)
 h44:aI (o 44) 4 (.assign (.tmp 41))
structure RB (P:Program) (f t ti tb fu fi el:Nat) (fn:Func) (r:Nat→Nat) (o:Nat→Oper):Prop where
 pos:P.funcs[f]? =some fn
 name:(fn.name== "runtime.NumGoroutine")=false
 tmps:fn.ntmps=42
 res:fn.results= #[.tmp 4]
 body:fn.body=some (CX r o)
 ops:UE t el ti tb fu fi o
 s5:P.underlying t=some (.slice el)
section
variable {P:Program} {c:Ctx} {f fi t ti tb fu el:Nat} {fn fni:Func} {r ri:Nat→Nat} {o oi:Nat→Oper} {E:TI} {cp g0 g:Nat} {ad:Option Addr} {ob:Option Nat} {w W W2:World} {lb:Array Value} {S:Type} {Inv:S→(Nat→Prop)→Ph→World→Prop} {step:S→MV→Option (Bool×S)} {Z0 Z:Nat→Prop} {φ0 φ:Ph} {s:S}
theorem wM.move (hp:tA P c g lb Inv step) (hW:wM c ob Inv Z0 φ0 w s Z φ W) (pI:W.heap.size≤W2.heap.size) (sb: ∀b,b<W.heap.size→ob≠some b→W2.heap[b]? =W.heap[b]?) (xk:Rest W W2) (S7: ∀b,ob=some b→ ¬Z b):
 wM c ob Inv Z0 φ0 w s (fun b=>(Z b∧b<W.heap.size)∨W2.heap.size≤b) φ W2:=by
 have hws:=hW.tr.size
 refine ⟨hp.mono (hp.frame hW.inv pI fun b hz hb=>sb b hb (fun e=>S7 b e hz)) fun b hb=> .inl hb,fun b hb=> .inr hb,fun b hb=> ?_,fun b off v hv=> ?_,?_,hW.free⟩
 ·rcases hb with hb|hb
  ·exact hW.sub b hb.1
  ·exact .inr (by omega)
 ·have h1:=hW.mZ b off v hv
  have dx:=World.block_lt_of_cell? W _ h1
  have cG:ob≠some b:=by intro e;rw [hW.free b off e] at hv;cases hv
  rw [World.cell?_of_block (sb b dx cG)]
  exact h1
 ·refine hW.tr.trans ⟨.refl _,fun b hb dx=> ?_,fun _ _ _=>rfl,pI,xk⟩
  exact sb b dx (fun e=>hb (.inr e))
structure aa9 (c:Ctx) (sz n cp:Nat) (cells:List Value) (cM:Array Value) (φ:Ph) (i j:Nat) (ys:List MV):Prop where
 size:cM.size=cp *sz
 done:aS c.key φ sz (cM.toList.take (i *sz)) ys
 len:ys.length=i
 rest:(cM.toList.take (n *sz)).drop (j *sz)=cells.drop (j *sz)
def UF (c:Ctx) (ob:Option Nat) {S:Type} (Inv:S→(Nat→Prop)→Ph→World→Prop) (step:S→MV→Option (Bool×S)) (Z0:Nat→Prop) (φ0:Ph) (w:World) (xs ys:List MV) (s0 s':S) (v:Value) (W:World):Prop:=
 ∃Z φ,(∀b,ob=some b→W.heap[b]? =w.heap[b]?)∧((v= .int .i64 (-1)∧ys=xs∧wM c ob Inv Z0 φ0 w s' Z φ W)∨
  ∃k,∃hk:k<xs.length,∃sk,v= .int .i64 (k:Int)∧lj step s0 (xs.take (k+1))=some (xs.take k,sk)∧wM c ob Inv Z0 φ0 w sk Z φ W)
theorem Jd (hf:RB P f t ti tb fu fi el fn r o) (Qm:Rx P fi t ti el fni ri oi) (hp:tA P c g lb Inv step) (hT:j6 P c.ti) (hE:c.tv el=some E) (dH:E.st=true) (dS:0<E.size) {xs:List MV} {cells:List Value} {cM:Array Value} {s0 s':S} {ys:List MV}
 (CL: ∀x∈xs,∃ms,x= .agg ms) (Im:0<xs.length→ad=some ⟨g0,0,none⟩∧ob=some g0∧w.heap[g0]? =some (.cells cM el (0,0))∧cM.toList.take (xs.length *E.size)=cells∧xs.length≤cp∧cM.size=cp *E.size) (Pg: ∀b,ob=some b→ ¬Z0 b∧b<w.heap.size∧ ∀off,φ0 b off=none)
 (gQ:aS c.key φ0 E.size cells xs) (aa8:xs.length<2^63) (hinv:Inv s0 Z0 φ0 w) (jX: ∀b,w.heap.size≤b→Z0 b) (iC:xI φ0 w) (hd:lj step s0 xs=some (ys,s')):
 Calls P f #[.slice ad xs.length cp,.func (.func g) #[] lb] w fun e W=> ∃v,e= .returned v∧ ∃Z φ,wM c ob Inv Z0 φ0 w s' Z φ W∧
  ((v= .slice ad xs.length cp∧ys=xs∧ ∀b,ob=some b→W.heap[b]? =w.heap[b]?)∨
   (0<xs.length∧v= .slice (some ⟨g0,0,none⟩) ys.length cp∧ ∃kY,W.heap[g0]? =some (.cells kY el (0,0))∧kY.size=cp *E.size∧aS c.key φ E.size (kY.toList.take (ys.length *E.size)) ys)):=by
 obtain ⟨mn,nq⟩:=bD hE
 obtain ⟨ie,z,na,rI,Nt,Uq,HQ⟩:=nu (hT _ E mn) nq
 obtain ⟨ie2,z2,Ro,PQ,hzr⟩:=xL hE hT
 rw [na] at Ro
 cases Ro
 rw [Uq] at PQ
 cases PQ
 have hz1: ∀v∈z.cells.toList,v.oneCell'=true:=(hzr (nv c.key fun _ _=>none)).cells
 have aba:eU P fi #[.slice ad xs.length cp,.func (.func g) #[] lb] w (UF c ob Inv step Z0 φ0 w xs ys s0 s'):=by
  refine vw Qm.pos Qm.name Qm.body ((Ry Qm hp hT hE dH CL (fun h=>⟨(Im h).1,(Im h).2.1,(Im h).2.2.1,(Im h).2.2.2.1⟩) Pg gQ aa8 hinv jX iC hd).mono ?_)
  rintro e W ⟨Z,φ,h1,h2⟩
  rcases h2 with ⟨rfl,h3,h4⟩|⟨k,hk,sk,rfl,h3,h4⟩
  ·exact ⟨_,rfl,Z,φ,h1,.inl ⟨rfl,h3,h4⟩⟩
  ·exact ⟨_,rfl,Z,φ,h1,.inr ⟨k,hk,sk,rfl,h3,h4⟩⟩
 refine calls_of_wp hf.pos hf.body ?_
 rw [hf.tmps]
 generalize Jc:(fun (e:Ending) (W:World)=> ∃v,e= .returned v∧ ∃Z φ,wM c ob Inv Z0 φ0 w s' Z φ W∧
  ((v= .slice ad xs.length cp∧ys=xs∧ ∀b,ob=some b→W.heap[b]? =w.heap[b]?)∨
   (0<xs.length∧v= .slice (some ⟨g0,0,none⟩) ys.length cp∧ ∃kY,W.heap[g0]? =some (.cells kY el (0,0))∧kY.size=cp *E.size∧aS c.key φ E.size (kY.toList.take (ys.length *E.size)) ys)))=X1
 have key: ∀a:Act,Tm a 42 (vp (vp (fun _=>undef) 0 (.slice ad xs.length cp)) 1 (.func (.func g) #[] lb))→(CX r o).wp P (bodyPost P fn X1) a w:=by
  intro a ay
  unfold CX
  refine wp_seq (wp_region ?_)
  rw [show List.range (#[o 0]:Array Oper).size=[0] from rfl]
  refine ay.step (v:= .slice none 0 0) rfl hf.ops.h0 (by decide) (cv hf.ops.h0 _) (fun a ay=> ?_)
  refine wp_seq (wp_region ?_)
  rw [show List.range (#[o 1,o 2,o 3,o 4]:Array Oper).size=[0,1,2,3] from rfl]
  refine ay.step (v:= .slice ad xs.length cp) rfl hf.ops.h1 (by decide) (aH hf.ops.h1 _) (fun a ay=> ?_)
  refine ay.step (v:= .func (.func g) #[] lb) rfl hf.ops.h2 (by decide) (aH hf.ops.h2 _) (fun a ay=> ?_)
  refine ay.call rfl hf.ops.h3 (by decide) (UD hf.ops.h3 rfl rfl rfl _) aba ?_
  clear aba
  rintro v W1 a1 ⟨Z,φ,yG,vl⟩ abb
  clear ay
  refine abb.step (v:=v) rfl hf.ops.h4 (by decide) (cv hf.ops.h4 _) (fun a2 Rk=> ?_)
  clear abb
  refine wp_seq (wp_seq (wp_region ?_))
  rw [show List.range (#[o 5,o 6]:Array Oper).size=[0,1] from rfl]
  refine Rk.step (v:=v) rfl hf.ops.h5 (by decide) (aH hf.ops.h5 _) (fun a3 X4=> ?_)
  clear Rk
  rcases vl with ⟨rfl,rfl,hW⟩|⟨k,hk,sk,rfl,Wm,hW⟩
  ·refine X4.step (v:= .bool (decide ((-1:Int)= -1))) rfl hf.ops.h6 (by decide) (nL hf.ops.h6 rfl rfl _) (fun a ay=> ?_)
   refine ay.cond (b:=true) (by show Value.bool (decide ((-1:Int)= -1))=_;rfl) ?_
   simp only [if_true]
   refine wp_seq (wp_region ?_)
   rw [show List.range (#[o 7,o 8]:Array Oper).size=[0,1] from rfl]
   refine ay.step (v:= .slice ad ys.length cp) rfl hf.ops.h7 (by decide) (aH hf.ops.h7 _) (fun a ay=> ?_)
   refine ay.step (v:= .slice ad ys.length cp) rfl hf.ops.h8 (by decide) (cv hf.ops.h8 _) (fun a ay=> ?_)
   refine wp_ret ?_
   refine Hg hf.res ay (v:= .slice ad ys.length cp) rfl ?_
   rw [←Jc]
   exact ⟨_,rfl,Z,φ,hW,.inl ⟨rfl,rfl,yG⟩⟩
  ·refine X4.step (v:= .bool (decide ((k:Int)= -1))) rfl hf.ops.h6 (by decide) (nL hf.ops.h6 rfl rfl _) (fun a ay=> ?_)
   refine ay.cond (b:=false) (by show Value.bool (decide ((k:Int)= -1))=_;rw [decide_eq_false (by omega)]) ?_
   simp only [Bool.false_eq_true,if_false]
   refine wp_skip ?_
   refine wp_seq (wp_seq (wp_region ?_))
   rw [show List.range (#[o 9,o 10,o 11]:Array Oper).size=[0,1,2] from rfl]
   refine ay.step (v:= .int .i64 (k:Int)) rfl hf.ops.h9 (by decide) (aH hf.ops.h9 _) (fun a ay=> ?_)
   refine ay.step (v:= .int .i64 ((k+1:Nat):Int)) rfl hf.ops.Mk (by decide) (jh (q:=1) hf.ops.Mk rfl rfl (by omega) _) (fun a ay=> ?_)
   refine ay.step (v:= .int .i64 ((k+1:Nat):Int)) rfl hf.ops.KW (by decide) (cv hf.ops.KW _) (fun a4 abc=> ?_)
   clear X4 ay
   obtain ⟨X2,NJ,cB,bh,abd,afb⟩:=Im (by omega)
   have HS:=Pg g0 NJ
   have abe: ∀b,ob=some b→b=g0:=fun b hb=>by rw [NJ] at hb;exact (Option.some.inj hb).symm
   have hmul: ∀{a b:Nat},a≤b→a *E.size≤b *E.size:=fun h=>Nat.mul_le_mul_right _ h
   refine wp_block (wp_loop (fun a W=> ∃σ,Tm a 42 σ∧σ 0= .slice (some ⟨g0,0,none⟩) xs.length cp∧σ 1= .func (.func g) #[] lb∧ ∃i j:Nat,i<j∧j≤xs.length∧σ 5= .int .i64 (i:Int)∧σ 6= .int .i64 (j:Int)∧
    ∃kY sj Z φ yj,W.heap[g0]? =some (.cells kY el (0,0))∧lj step s0 (xs.take j)=some (yj,sj)∧wM c ob Inv Z0 φ0 w sj Z φ W∧aa9 c E.size xs.length cp cells kY φ i j yj)
    (fun a W=>match a.tmps.getD 6 undef with| .int _ k=>xs.length-k.toNat|_=>0) ?_ ?_)
   ·refine ⟨_,abc,by show Value.slice ad xs.length cp=_;rw [X2],rfl,k,k+1,by omega,by omega,rfl,rfl,cM,sk,Z,φ,xs.take k,(yG g0 NJ).trans cB,Wm,hW,⟨afb,?_,by rw [List.length_take];omega,by rw [bh]⟩⟩
    have h1:=(gQ.mono hW.tr.ph).take k
    rw [←bh,List.take_take] at h1
    have h2:Nat.min (k *E.size) (xs.length *E.size)=k *E.size:=Nat.min_eq_left (hmul (by omega))
    rw [show min (k *E.size) (xs.length *E.size)=k *E.size from h2] at h1
    exact h1
   ·clear yG Wm hW abc cB
    rintro a W ⟨σ,ay,h0,h1,i,j,O9,hjn,h5,h6,kY,sj,Z',φ',yj,yG,hdj,hW,hR⟩
    have hm6:(match a.tmps.getD 6 undef with| .int _ k=>xs.length-k.toNat|_=>0)=xs.length-j:=by rw [ay.get 6,h6];simp
    rw [hm6]
    clear hm6
    have S7: ∀b,ob=some b→ ¬Z' b:=fun b hb hz=>by
     have:=abe b hb
     subst this
     rcases hW.sub _ hz with h|h
     ·exact HS.1 h
     ·have:=HS.2.1;omega
    refine wp_seq (wp_seq (wp_region ?_))
    rw [show List.range (#[o 12,o 13,o 14,o 15]:Array Oper).size=[0,1,2,3] from rfl]
    refine ay.step (v:= .int .i64 (j:Int)) rfl hf.ops.KX (by decide) ((aH hf.ops.KX _).trans (by show Result.ok (Next.value (σ 6)) W=_;rw [h6])) (fun a ay=> ?_)
    refine ay.step (v:= .slice (some ⟨g0,0,none⟩) xs.length cp) rfl hf.ops.KY (by decide) ((aH hf.ops.KY _).trans (by show Result.ok (Next.value (σ 0)) W=_;rw [h0])) (fun a ay=> ?_)
    refine ay.step (v:= .int .i64 ((xs.length:Nat):Int)) rfl hf.ops.KZ (by decide) (lE hf.ops.KZ hf.s5 rfl _) (fun a ay=> ?_)
    refine ay.step (v:= .bool (decide ((j:Int)<(xs.length:Int)))) rfl hf.ops.K0 (by decide) (Ja hf.ops.K0 rfl rfl _) (fun a ay=> ?_)
    by_cases dx:j<xs.length
    rotate_left
    ·
     refine ay.cond (b:=false) (by show Value.bool (decide ((j:Int)<(xs.length:Int)))=_;rw [decide_eq_false (by omega)]) ?_
     simp only [Bool.false_eq_true,if_false]
     refine wp_exit ?_
     have afc:j=xs.length:=by omega
     subst afc
     rw [List.take_length,hd] at hdj
     simp only [Option.some.injEq,Prod.mk.injEq] at hdj
     obtain ⟨rfl,rfl⟩:=hdj
     have hlen:=hR.len
     have pI:=hR.size
     have vf:i *E.size+(xs.length-i) *E.size≤kY.size:=by
      rw [←Nat.add_mul,pI];exact hmul (by omega)
     have sf:i *E.size≤xs.length *E.size:=hmul (by omega)
     have Fk:xs.length *E.size≤cp *E.size:=hmul abd
     obtain ⟨zs,ZC,abf⟩:=vt (P:=P) (w:=W) (t:=t) (ty:=(o 40).type) (g:=g0) (off:=i *E.size) (n:=xs.length-i) (c:=cp-i) hf.s5 na Uq HQ hz1 yG (by omega) vf
     have S1:g0<W.heap.size:=Nat.lt_of_lt_of_le HS.2.1 hW.tr.size
     obtain ⟨W3,Wn⟩: ∃W3,W3=W.setRow g0 (kY.toList.take (i *E.size)++zs++kY.toList.drop (i *E.size+zs.length)).toArray:=⟨_,rfl⟩
     rw [←Wn] at abf
     have xl:=hW.move hp (W2:=W3) (by rw [Wn];simp [World.setRow]) (fun b _ cG=>by rw [Wn];exact setRow_other _ _ _ _ (fun e=>cG (by rw [NJ,e]))) (by rw [Wn];exact .setRow _ _ _) S7
     show Code.wp P (Code.seq _ _) _ a W
     refine wp_seq (wp_region ?_)
     rw [show List.range (#[o 37,o 38,o 39,o 40]:Array Oper).size=[0,1,2,3] from rfl]
     refine ay.step (v:= .slice (some ⟨g0,0,none⟩) xs.length cp) rfl hf.ops.h37 (by decide) ((aH hf.ops.h37 _).trans (by show Result.ok (Next.value (σ 0)) W=_;rw [h0])) (fun a ay=> ?_)
     refine ay.step (v:= .int .i64 (i:Int)) rfl hf.ops.h38 (by decide) ((aH hf.ops.h38 _).trans (by show Result.ok (Next.value (σ 5)) W=_;rw [h5])) (fun a ay=> ?_)
     refine ay.step rfl hf.ops.h39 (by decide) (mi hf.ops.h39 hf.s5 na rI rfl rfl (by omega) (by omega) _) (fun a ay=> ?_)
     refine ay.Wj (v:= .tuple #[]) rfl hf.ops.h40 (Mz hf.ops.h40 rfl abf) ?_
     refine wp_seq (wp_region ?_)
     rw [show List.range (#[o 41,o 42,o 43,o 44]:Array Oper).size=[0,1,2,3] from rfl]
     refine ay.step (v:= .slice (some ⟨g0,0,none⟩) xs.length cp) rfl hf.ops.h41 (by decide) ((aH hf.ops.h41 _).trans (by show Result.ok (Next.value (σ 0)) W3=_;rw [h0])) (fun a ay=> ?_)
     refine ay.step (v:= .int .i64 (i:Int)) rfl hf.ops.h42 (by decide) ((aH hf.ops.h42 _).trans (by show Result.ok (Next.value (σ 5)) W3=_;rw [h5])) (fun a ay=> ?_)
     refine ay.step (v:= .slice (some ⟨g0,0,none⟩) i cp) rfl hf.ops.h43 (by decide) (yJ hf.ops.h43 hf.s5 na rI rfl rfl (by omega) _) (fun a ay=> ?_)
     refine ay.step (v:= .slice (some ⟨g0,0,none⟩) i cp) rfl hf.ops.h44 (by decide) (cv hf.ops.h44 _) (fun a ay=> ?_)
     refine wp_ret ?_
     refine Hg hf.res ay (v:= .slice (some ⟨g0,0,none⟩) i cp) rfl ?_
     rw [←Jc]
     have nt:kY.toList.length=cp *E.size:=by rw [Array.length_toList,pI]
     refine ⟨_,rfl,_,φ',xl,.inr ⟨by omega,by rw [hlen],_,by rw [Wn];exact sC _ yG,?_,?_⟩⟩
     ·simp only [List.size_toArray,List.length_append,List.length_take,List.length_drop,nt,ZC]
      have:(xs.length-i) *E.size+i *E.size=xs.length *E.size:=by rw [←Nat.add_mul];congr 1;omega
      omega
     ·rw [hlen,List.append_assoc,List.take_append_of_le_length (by rw [List.length_take,nt];omega),List.take_take,Nat.min_self]
      exact hR.done
    ·refine ay.cond (b:=true) (by show Value.bool (decide ((j:Int)<(xs.length:Int)))=_;rw [decide_eq_true (by omega)]) ?_
     simp only [if_true]
     refine wp_skip ?_
     obtain ⟨yk,Ui,b,sk2,e1,e2,e3⟩:=Mq hd dx
     rw [hdj] at e1
     simp only [Option.some.injEq,Prod.mk.injEq] at e1
     obtain ⟨rfl,rfl⟩:=e1
     have Rz:=gQ.mono hW.tr.ph
     obtain ⟨hl,ef⟩:=Jb Rz dx
     obtain ⟨FR,GG⟩: ∃FR,FR=(cells.drop (j *E.size)).take E.size:=⟨_,rfl⟩
     rw [←GG] at hl ef
     have nt:kY.toList.length=cp *E.size:=by rw [Array.length_toList,hR.size]
     have hj1:j *E.size+E.size≤xs.length *E.size:=by rw [←Nat.succ_mul];exact hmul dx
     have Fk:xs.length *E.size≤cp *E.size:=hmul abd
     have rY:i *E.size+E.size≤j *E.size:=by rw [←Nat.succ_mul];exact hmul O9
     have X3:W.rangeAt g0 (j *E.size) FR:=by
      intro q v hq
      have hql:q<E.size:=by have:=(List.getElem?_eq_some_iff.1 hq).1;omega
      rw [cell_of yG,←Array.getElem?_toList]
      rw [GG,List.getElem?_take_of_lt hql,←hR.rest,List.getElem?_drop,List.getElem?_take_of_lt (by omega)] at hq
      exact hq
     have gU: ∀u∈FR,u.oneCell'=true:=fun u hu=>gQ.vh u (by rw [GG] at hu;exact List.mem_of_mem_drop (List.mem_of_mem_take hu))
     obtain ⟨ms,Iv⟩:=CL _ (List.getElem_mem dx)
     have KU:eB c.key φ' (.agg FR.toArray) xs[j]:=CW ef Iv
     have Y6:(Value.agg FR.toArray).cells.toList=FR:=by simp [Value.cells]
     refine wp_seq (wp_block ?_)
     refine wp_seq (wp_region ?_)
     rw [show List.range (#[o 16,o 17,o 18,o 19,o 20,o 21]:Array Oper).size=[0,1,2,3,4,5] from rfl]
     refine ay.step (v:= .slice (some ⟨g0,0,none⟩) xs.length cp) rfl hf.ops.K1 (by decide) ((aH hf.ops.K1 _).trans (by show Result.ok (Next.value (σ 0)) W=_;rw [h0])) (fun a ay=> ?_)
     refine ay.step (v:= .int .i64 (j:Int)) rfl hf.ops.Rf (by decide) ((aH hf.ops.Rf _).trans (by show Result.ok (Next.value (σ 6)) W=_;rw [h6])) (fun a ay=> ?_)
     refine ay.step rfl hf.ops.Wb (by decide) (He hf.ops.Wb hf.s5 na rI rfl rfl dx _) (fun a ay=> ?_)
     refine ay.step rfl hf.ops.Wc (by decide) (BP hf.ops.Wc (hT _ E mn) nq dH hl rfl X3) (fun a ay=> ?_)
     refine ay.step rfl hf.ops.Wd (by decide) (UC hf.ops.Wd na Uq _) (fun a ay=> ?_)
     have Wo:(W.alloc (.cells z.cells el)).heap[W.heap.size]? =some (.cells z.cells el (0,0)):=jF W _
     refine ay.Wl rfl hf.ops.S9 (MG (v:= .agg FR.toArray) (off:=0) hf.ops.S9 (hT _ E mn) nq rfl rfl (by rw [Y6,hl]) (by rw [Y6];exact gU) Wo (by rw [HQ];omega)) ?_
     rw [Y6]
     obtain ⟨W2,N4⟩: ∃W2,W2=(W.alloc (.cells z.cells el)).setRow W.heap.size (z.cells.toList.take 0++FR++z.cells.toList.drop (0+E.size)).toArray:=⟨_,rfl⟩
     rw [←N4]
     have Ig:W2.heap.size=W.heap.size+1:=by rw [N4,setRow_size];simp
     have hold: ∀b,b<W.heap.size→W2.heap[b]? =W.heap[b]? :=fun b hb=>by
      rw [N4,setRow_other _ _ _ _ (by omega)]
      exact (cZ.alloc W z.cells el).zv b hb
     have Wp:W2.heap[W.heap.size]? =some (.cells FR.toArray el (0,0)):=by
      rw [N4,sC _ Wo]
      congr 3
      have:z.cells.toList.drop (0+E.size)=[]:=by rw [Nat.zero_add,List.drop_of_length_le];rw [Array.length_toList,HQ];exact Nat.le_refl _
      rw [this];simp
     have K3:Rest W W2:=by rw [N4];exact (Rest.alloc W z.cells el).trans (.setRow _ _ _)
     have S1:g0<W.heap.size:=Nat.lt_of_lt_of_le HS.2.1 hW.tr.size
     have xl:=hW.move hp (W2:=W2) (by omega) (fun b hb _=>hold b hb) K3 S7
     have X5: ∀b,ob=some b→ ¬((Z' b∧b<W.heap.size)∨W2.heap.size≤b):=by
      intro b hb
      have:=abe b hb
      subst this
      rintro (h|h)
      ·exact S7 b hb h.1
      ·omega
     have Wq: ∀{W:World} {b:Nat},W.heap[b]? =some (.cells FR.toArray el (0,0))→W.rangeAt b 0 FR:=by
      intro W b hb q v hq
      rw [cell_of hb,Nat.zero_add]
      simpa using hq
     refine wp_seq (wp_region ?_)
     rw [show List.range (#[o 22,o 23,o 24,o 25]:Array Oper).size=[0,1,2,3] from rfl]
     refine ay.step (v:= .func (.func g) #[] lb) rfl hf.ops.Ta (by decide) ((aH hf.ops.Ta _).trans (by show Result.ok (Next.value (σ 1)) W2=_;rw [h1])) (fun a ay=> ?_)
     refine ay.step rfl hf.ops.Tb (by decide) (BP hf.ops.Tb (hT _ E mn) nq dH hl rfl (Wq Wp)) (fun a ay=> ?_)
     refine ay.call rfl hf.ops.Tc (by decide) (MH hf.ops.Tc rfl rfl _) (hp.call xl.inv xl.new xl.mZ KU e2) ?_
     rintro v W3 a ⟨rfl,φ3,t1,t2,t3⟩ ay
     have RC:W3.heap[g0]? =some (.cells kY el (0,0)):=(t1.heap g0 (X5 g0 NJ) (by omega)).trans ((hold g0 S1).trans yG)
     have abg:W3.heap[W.heap.size]? =some (.cells FR.toArray el (0,0)):=(t1.heap _ (by rintro (h|h)<;>omega) (by omega)).trans Wp
     have Wn:wM c ob Inv Z0 φ0 w sk2 (fun b=>(Z' b∧b<W.heap.size)∨W2.heap.size≤b) φ3 W3:=⟨t3,fun b hb=>xl.new b (Nat.le_trans t1.size hb),xl.sub,t2,xl.tr.trans (t1.sup fun b hb=> .inl (xl.sub b hb)),fun b off hb=>by rw [t1.free b off (X5 b hb)];exact xl.free b off hb⟩
     refine ay.step (v:= .bool (!b)) rfl hf.ops.Td (by decide) (Mv hf.ops.Td rfl _) (fun a ay=> ?_)
     cases b with
     |true=>
      refine ay.cond (b:=false) rfl ?_
      simp only [Bool.false_eq_true,if_false]
      refine wp_skip ?_
      show Code.wp P (Code.region (r 10) #[o 34,o 35,o 36] false) _ a W3
      refine wp_region ?_
      rw [show List.range (#[o 34,o 35,o 36]:Array Oper).size=[0,1,2] from rfl]
      refine ay.step (v:= .int .i64 (j:Int)) rfl hf.ops.XS (by decide) ((aH hf.ops.XS _).trans (by show Result.ok (Next.value (σ 6)) W3=_;rw [h6])) (fun a ay=> ?_)
      refine ay.step (v:= .int .i64 ((j+1:Nat):Int)) rfl hf.ops.XT (by decide) (jh (q:=1) hf.ops.XT rfl rfl (by omega) _) (fun a ay=> ?_)
      refine ay.step (v:= .int .i64 ((j+1:Nat):Int)) rfl hf.ops.XU (by decide) (cv hf.ops.XU _) (fun a ay=> ?_)
      refine ⟨⟨_,ay,h0,h1,i,j+1,by omega,by omega,h5,rfl,kY,sk2,_,φ3,yj,RC,by rw [e3];rfl,Wn,⟨hR.size,hR.done.mono t1.ph,hR.len,?_⟩⟩,?_⟩
      ·rw [show (j+1) *E.size=j *E.size+E.size from Nat.succ_mul _ _,←List.drop_drop,←List.drop_drop,hR.rest]
      ·have:a.tmps.getD 6 undef= .int .i64 ((j+1:Nat):Int):=by rw [ay.get 6];rfl
       rw [this];simp;omega
     |false=>
      refine ay.cond (b:=true) rfl ?_
      simp only [if_true]
      refine wp_seq (wp_region ?_)
      rw [show List.range (#[o 26,o 27,o 28,o 29,o 30]:Array Oper).size=[0,1,2,3,4] from rfl]
      refine ay.step (v:= .slice (some ⟨g0,0,none⟩) xs.length cp) rfl hf.ops.Te (by decide) ((aH hf.ops.Te _).trans (by show Result.ok (Next.value (σ 0)) W3=_;rw [h0])) (fun a ay=> ?_)
      refine ay.step (v:= .int .i64 (i:Int)) rfl hf.ops.We (by decide) ((aH hf.ops.We _).trans (by show Result.ok (Next.value (σ 5)) W3=_;rw [h5])) (fun a ay=> ?_)
      refine ay.step rfl hf.ops.Wf (by decide) (BP hf.ops.Wf (hT _ E mn) nq dH hl rfl (Wq abg)) (fun a ay=> ?_)
      refine ay.step rfl hf.ops.Wg (by decide) (He hf.ops.Wg hf.s5 na rI rfl rfl (by omega) _) (fun a ay=> ?_)
      refine ay.Wl rfl hf.ops.Rg (MG (v:= .agg FR.toArray) (off:=i *E.size) hf.ops.Rg (hT _ E mn) nq rfl rfl (by rw [Y6,hl]) (by rw [Y6];exact gU) RC (by rw [hR.size];omega)) ?_
      rw [Y6]
      obtain ⟨W4,hW4⟩: ∃W4,W4=W3.setRow g0 (kY.toList.take (i *E.size)++FR++kY.toList.drop (i *E.size+E.size)).toArray:=⟨_,rfl⟩
      rw [←hW4]
      have X6:=Wn.move hp (W2:=W4) (by rw [hW4,setRow_size];exact Nat.le_refl _) (fun b _ cG=>by rw [hW4];exact setRow_other _ _ _ _ (fun e=>cG (by rw [NJ,e]))) (by rw [hW4];exact .setRow _ _ _) X5
      refine wp_region ?_
      rw [show List.range (#[o 31,o 32,o 33]:Array Oper).size=[0,1,2] from rfl]
      refine ay.step (v:= .int .i64 (i:Int)) rfl hf.ops.h31 (by decide) ((aH hf.ops.h31 _).trans (by show Result.ok (Next.value (σ 5)) W4=_;rw [h5])) (fun a ay=> ?_)
      refine ay.step (v:= .int .i64 ((i+1:Nat):Int)) rfl hf.ops.h32 (by decide) (jh (q:=1) hf.ops.h32 rfl rfl (by omega) _) (fun a ay=> ?_)
      refine ay.step (v:= .int .i64 ((i+1:Nat):Int)) rfl hf.ops.h33 (by decide) (cv hf.ops.h33 _) (fun a ay=> ?_)
      show Code.wp P (Code.region (r 10) #[o 34,o 35,o 36] false) _ a W4
      refine wp_region ?_
      rw [show List.range (#[o 34,o 35,o 36]:Array Oper).size=[0,1,2] from rfl]
      refine ay.step (v:= .int .i64 (j:Int)) rfl hf.ops.XS (by decide) ((aH hf.ops.XS _).trans (by show Result.ok (Next.value (σ 6)) W4=_;rw [h6])) (fun a ay=> ?_)
      refine ay.step (v:= .int .i64 ((j+1:Nat):Int)) rfl hf.ops.XT (by decide) (jh (q:=1) hf.ops.XT rfl rfl (by omega) _) (fun a ay=> ?_)
      refine ay.step (v:= .int .i64 ((j+1:Nat):Int)) rfl hf.ops.XU (by decide) (cv hf.ops.XU _) (fun a ay=> ?_)
      refine ⟨⟨_,ay,h0,h1,i+1,j+1,by omega,by omega,rfl,rfl,_,sk2,_,φ3,yj++[xs[j]],by rw [hW4];exact sC _ RC,by rw [e3];rfl,X6,⟨?_,?_,by rw [List.length_append,hR.len];rfl,?_⟩⟩,?_⟩
      ·simp only [List.size_toArray,List.length_append,List.length_take,List.length_drop,nt,hl]
       omega
      ·rw [show (i+1) *E.size=i *E.size+E.size from Nat.succ_mul _ _]
       have h9:(kY.toList.take (i *E.size)++FR).length=i *E.size+E.size:=by rw [List.length_append,List.length_take,nt,hl];omega
       show aS c.key φ3 E.size (List.take (i *E.size+E.size) (kY.toList.take (i *E.size)++FR++kY.toList.drop (i *E.size+E.size))) _
       rw [←h9,List.take_left]
       exact (hR.done.mono t1.ph).append ⟨FR,[],by simp,hl,ef.mono t1.ph,rfl⟩
      ·show (List.take (xs.length *E.size) (kY.toList.take (i *E.size)++FR++kY.toList.drop (i *E.size+E.size))).drop ((j+1) *E.size)=_
       have h8:cells.drop ((j+1) *E.size)=(kY.toList.take (xs.length *E.size)).drop ((j+1) *E.size):=by
        rw [show (j+1) *E.size=j *E.size+E.size from Nat.succ_mul _ _,←List.drop_drop,←List.drop_drop,hR.rest]
       rw [h8]
       apply List.ext_getElem?
       intro q
       have Mk:(j+1) *E.size=j *E.size+E.size:=Nat.succ_mul _ _
       rw [List.getElem?_drop,List.getElem?_drop,List.getElem?_take,List.getElem?_take]
       split
       ·have h9:(kY.toList.take (i *E.size)++FR).length=i *E.size+E.size:=by rw [List.length_append,List.length_take,nt,hl];omega
        rw [List.getElem?_append_right (by rw [h9];omega),h9,List.getElem?_drop]
        congr 1
        omega
       ·rfl
      ·have:a.tmps.getD 6 undef= .int .i64 ((j+1:Nat):Int):=by rw [ay.get 6];rfl
       rw [this];simp;omega
 exact key _ (tm2 _ _ 40)
theorem UG (hf:RB P f t ti tb fu fi el fn r o) (Qm:Rx P fi t ti el fni ri oi) (hT:j6 P c.ti) (hE:c.tv el=some E) (dH:E.st=true) (dS:0<E.size):G5 P c f el:=by
 refine ⟨?_⟩
 intro S Inv step g lb hp v0 xs ys w Z0 φ0 s0 s' CL e9 Bm hinv jX iC hd
 obtain ⟨mn,nq⟩:=bD hE
 obtain ⟨I,cells,hI,PW,dk,gQ,iM⟩:=e9.row
 have hI:c.ti el=some I:=hI
 rw [mn] at hI
 cases hI
 have dk:w.ownsRow 0 el E.size v0 xs.length cells:=dk
 have gQ:aS c.key φ0 E.size cells xs:=gQ
 have oX: ∀b,v0.ownBlock=some b→ ∀off,φ0 b off=none:=by
  intro b hb off
  cases h:φ0 b off with
  |none=>rfl
  |some u=>have:=((iM b hb).2.1 off u h).1;cases this
 rcases dk.2 with ⟨rfl,h0⟩|⟨gb,cap,cM,rfl,_,cB,Fk,BJ,qx,Kt⟩
 ·have hx:xs=[]:=List.eq_nil_of_length_eq_zero h0
  subst hx
  refine vw hf.pos hf.name hf.body ((Jd (ob:=none) (g0:=0) (cM:= #[]) hf Qm hp hT hE dH dS (cp:=0) CL (fun h=>absurd h (by simp)) (fun b hb=>by cases hb) gQ (by simp) hinv jX iC hd).mono ?_)
  rintro e W ⟨v,rfl,Z,φ,hW,h1⟩
  rcases h1 with ⟨rfl,rfl,_⟩|⟨h1,_⟩
  ·exact ⟨_,rfl,Z,φ,hW,⟨E,[],mn,nq,⟨by simp,.inl ⟨rfl,rfl⟩⟩,rfl,fun aX hb=>by simp [Value.ownBlock] at hb⟩,fun _ h=>h⟩
  ·simp at h1
 ·have dx:=bm cB
  have afe:xs.length<2^63:=by unfold Go.maxLen at BJ;omega
  refine vw hf.pos hf.name hf.body ((Jd (ob:=some gb) (g0:=gb) hf Qm hp hT hE dH dS (cp:=cap) CL (fun h=>⟨rfl,rfl,cB,Kt,Fk,qx⟩) (fun b hb=>by cases hb;exact ⟨Bm gb rfl,dx,oX gb rfl⟩) gQ afe hinv jX iC hd).mono ?_)
  rintro e W ⟨v,rfl,Z,φ,hW,h1⟩
  rcases h1 with ⟨rfl,rfl,h2⟩|⟨h0,rfl,kY,h2,h3,h4⟩
  ·refine ⟨_,rfl,Z,φ,hW,⟨E,cells,mn,nq,⟨dk.1,.inr ⟨gb,cap,cM,rfl,Nat.zero_le _,(h2 gb rfl).trans cB,Fk,BJ,qx,Kt⟩⟩,gQ.mono hW.tr.ph,fun aX hb=>⟨hb,fun off u hu=> ?_,fun hc=>hc.elim⟩⟩,fun _ h=>h⟩
   have hu:φ aX off=some u:=hu
   rw [hW.free aX off hb] at hu;cases hu
  ·have hle:ys.length≤cap:=Nat.le_trans (Ra hd) Fk
   refine ⟨_,rfl,Z,φ,hW,⟨E,kY.toList.take (ys.length *E.size),mn,nq,⟨?_,.inr ⟨gb,cap,kY,rfl,Nat.zero_le _,?_,hle,BJ,h3,rfl⟩⟩,h4,fun aX hb=>⟨hb,fun off u hu=> ?_,fun hc=>hc.elim⟩⟩,fun _ h=>h⟩
   ·exact h4.length
   ·have:kY=kY:=rfl
    exact h2
   ·have hu:φ aX off=some u:=hu
    rw [hW.free aX off hb] at hu;cases hu
end
end Dn
/-
  Reasoning about functions on typed values. Conditions: none.
-/
set_option linter.unusedVariables false
namespace Dn
open Go
section
variable {α R:Type}
theorem cg {l:List α} {k:Nat} (h:k<l.length) (K:α→Option R):ix l (k:Int) K=K l[k]:=by
 simp [ix,h]
theorem Ah {l:List α} {i:Int} (h0:0≤i) (h:i.toNat<l.length) (K:α→Option R):ix l i K=K l[i.toNat]:=by
 simp [ix,h,h0]
@[simp] theorem Ju {A : Type} (x : Option A) : bd x (fun a => some a) = x := by cases x <;> rfl
end
def bV {A:Type} (x:Option A) (Q:A→Prop):Prop:= ∃a,x=some a∧Q a
section
variable {A B α σ ρ:Type}
theorem bV.mk {a:A} {Q:A→Prop} (h:Q a):bV (some a) Q:=⟨a,rfl,h⟩
theorem bV.of {x:Option A} {a:A} {Q:A→Prop} (e:x=some a) (h:Q a):bV x Q:=⟨a,e,h⟩
theorem bV.bd {x:Option A} {K:A→Option B} {P:A→Prop} {Q:B→Prop} (h:bV x P) (hk: ∀a,P a→bV (K a) Q):bV (bd x K) Q:=by
 obtain ⟨a,rfl,hp⟩:=h;exact hk a hp
theorem bV.imp {x:Option A} {P Q:A→Prop} (h:bV x P) (KI: ∀a,P a→Q a):bV x Q:=by
 obtain ⟨a,e,hp⟩:=h;exact ⟨a,e,KI a hp⟩
theorem bV.ix {l:List α} {k:Nat} {K:α→Option A} {Q:A→Prop} (h:k<l.length) (hk:bV (K l[k]) Q):bV (ix l (k:Int) K) Q:=by rw [cg h];exact hk
theorem bV.eq {x:Option A} {a:A} (h:bV x (· =a)):x=some a:=by obtain ⟨b,e,rfl⟩:=h;exact e
variable {body:σ→Option (Sum σ ρ)}
theorem bV.loop (I:σ→Prop) (μ:σ→Nat) {Q:ρ→Prop} {s:σ} (hs:I s) (h: ∀s,I s→bV (body s) fun x=>match x with| .inl s'=>I s'∧μ s'<μ s| .inr r=>Q r):bV (Loop body s) Q:=by
 refine Rr I μ Q (fun s hs=> ?_) hs
 obtain ⟨x,e,hx⟩:=h s hs
 cases x with
 |inl s'=>exact .inl ⟨s',e,hx⟩
 |inr r=>exact .inr ⟨r,e,hx⟩
theorem bV.count (S:Nat→σ) (n:Nat) {Q:ρ→Prop} (P:Nat→Prop) {s:σ} (e:s=S 0) (h0:P 0) (h: ∀k,k<n→P k→bV (body (S k)) fun x=>match x with| .inl s'=>s'=S (k+1)∧P (k+1)| .inr r=>Q r)
 (he:P n→bV (body (S n)) fun x=>match x with| .inl _=>False| .inr r=>Q r):bV (Loop body s) Q:=by
 subst e
 refine Rs S n Q P h0 (fun k hk hp=> ?_) (fun hp=> ?_)
 ·obtain ⟨x,e,hx⟩:=h k hk hp
  cases x with
  |inl s'=>obtain ⟨rfl,hx⟩:=hx;exact .inl ⟨e,hx⟩
  |inr r=>exact .inr ⟨r,e,hx⟩
 ·obtain ⟨x,e,hx⟩:=he hp
  cases x with
  |inl s'=>exact hx.elim
  |inr r=>exact ⟨r,e,hx⟩
end
theorem wrap64 {x:Int} (h1: -9223372036854775808≤x) (h2:x≤9223372036854775807):IntKind.wrap .i64 x=x:=Ut h1 h2
end Dn
/-
  Functions of the library, on typed values. Conditions: none.
-/
set_option linter.unusedVariables false
namespace Dn
open Go
def HA (x y:Int):Int:=if x<y then-1 else if y<x then 1 else 0
def rV {α:Type} (key:α→Int) (L:List α) (s:Int):Nat:=L.countP (fun e=>decide (key e<s))
def li {α:Type} (key:α→Int) (L:List α) (s:Int):Bool:=L.any fun e=>decide (key e=s)
def sY {α:Type} (key:α→Int) (L:List α):Prop:=L.Pairwise fun a b=>key a<key b
section
variable {α τ:Type} {key:α→Int}
theorem Yv {L:List α} {s:Int} {p:Nat} (hp:p≤L.length) (h1: ∀k (hk:k<L.length),k<p→key L[k]<s) (h2: ∀k (hk:k<L.length),p≤k→s≤key L[k]):rV key L s=p:=by
 have h3:(L.take p).countP (fun e=>decide (key e<s))=(L.take p).length:=by
  rw [List.countP_eq_length]
  intro a ha
  obtain ⟨k,hk,rfl⟩:=List.mem_iff_getElem.1 ha
  have JY:k<p:=by rw [List.length_take] at hk;omega
  rw [List.getElem_take]
  exact decide_eq_true (h1 k (by omega) JY)
 have h4:(L.drop p).countP (fun e=>decide (key e<s))=0:=by
  rw [List.countP_eq_zero]
  intro a ha
  obtain ⟨k,hk,rfl⟩:=List.mem_iff_getElem.1 ha
  rw [List.length_drop] at hk
  rw [List.getElem_drop]
  have:=h2 (p+k) (by omega) (by omega)
  simp;omega
 have h5:rV key L s=(L.take p++L.drop p).countP (fun e=>decide (key e<s)):=by rw [List.take_append_drop];rfl
 rw [h5,List.countP_append,h3,h4,List.length_take]
 omega
theorem sY.lt {L:List α} (hs:sY key L) {i j:Nat} (hj:j<L.length) (h:i<j):key (L[i]'(by omega))<key L[j]:=List.pairwise_iff_getElem.1 hs i j (by omega) hj h
theorem sY.le {L:List α} (hs:sY key L) {i j:Nat} (hj:j<L.length) (h:i≤j):key (L[i]'(by omega))≤key L[j]:=by
 rcases Nat.lt_or_eq_of_le h with h|h
 ·exact Int.le_of_lt (hs.lt hj h)
 ·subst h;exact Int.le_refl _
theorem Lo (L:List α) (s:Int):rV key L s≤L.length:=List.countP_le_length
theorem sY.lb {L:List α} (hs:sY key L) (s:Int):(∀k (hk:k<L.length),k<rV key L s→key L[k]<s)∧(∀k (hk:k<L.length),rV key L s≤k→s≤key L[k]):=by
 have: ∃p,p≤L.length∧(∀k (hk:k<L.length),k<p→key L[k]<s)∧(∀k (hk:k<L.length),p≤k→s≤key L[k]):=by
  induction L with
  |nil=>exact ⟨0,Nat.le_refl _,fun k hk=>by simp at hk,fun k hk=>by simp at hk⟩
  |cons a l ih=>
   have vZ:=List.pairwise_cons.1 hs
   by_cases ha:key a<s
   ·obtain ⟨p,h1,h2,h3⟩:=ih vZ.2
    refine ⟨p+1,by simp;omega,fun k hk Sd=> ?_,fun k hk Sd=> ?_⟩
    ·cases k with
     |zero=>exact ha
     |succ k=>exact h2 k (by simpa using hk) (by omega)
    ·cases k with
     |zero=>omega
     |succ k=>exact h3 k (by simpa using hk) (by omega)
   ·refine ⟨0,Nat.zero_le _,fun k hk Sd=>by omega,fun k hk _=> ?_⟩
    cases k with
    |zero=>simp;omega
    |succ k=>
     have:=vZ.1 (l[k]'(by simpa using hk)) (List.getElem_mem _)
     simp only [List.getElem_cons_succ];omega
 obtain ⟨p,h1,h2,h3⟩:=this
 rw [Yv h1 h2 h3]
 exact ⟨h2,h3⟩
theorem sY.has {L:List α} (hs:sY key L) (s:Int):li key L s=true↔ ∃h:rV key L s<L.length,key L[rV key L s]=s:=by
 obtain ⟨h1,h2⟩:=hs.lb s
 unfold li
 rw [List.any_eq_true]
 constructor
 ·rintro ⟨x,hx,he⟩
  obtain ⟨k,hk,rfl⟩:=List.mem_iff_getElem.1 hx
  have he:key L[k]=s:=by simpa using he
  have Pf:rV key L s≤k:=by
   refine Nat.le_of_not_lt fun dx=> ?_
   have:=h1 k hk dx;omega
  have hl:rV key L s<L.length:=by omega
  refine ⟨hl,?_⟩
  have:=h2 _ hl (Nat.le_refl _)
  have:=hs.le hk Pf
  omega
 ·rintro ⟨h,he⟩
  exact ⟨_,List.getElem_mem h,decide_eq_true he⟩
theorem Se {L:List α} {s:Int}:li key L s=true↔ ∃x∈L,key x=s:=by simp [li]
noncomputable def bsL (x:List α) (target:τ) (cmp:α→τ→Option Int) (st:Int×Int):Option ((Int×Int)⊕Int):=
 if st.1<st.2 then
 if (0:Int)≤1 then
 ix x (IntKind.wrap .i64 (Int.fdiv (IntKind.wrap .u64 (IntKind.wrap .i64 (st.1+st.2))) (2^min (Int.toNat 1) (IntKind.bits .u64)))) fun y=>
 bd (cmp y target) fun rA=>
 bd (
  if rA<0 then
  some (IntKind.wrap .i64 ((IntKind.wrap .i64 (Int.fdiv (IntKind.wrap .u64 (IntKind.wrap .i64 (st.1+st.2))) (2^min (Int.toNat 1) (IntKind.bits .u64))))+1),st.2)
  else
  some (st.1,IntKind.wrap .i64 (Int.fdiv (IntKind.wrap .u64 (IntKind.wrap .i64 (st.1+st.2))) (2^min (Int.toNat 1) (IntKind.bits .u64)))):Option (Int×Int)) fun w1=>
 some (.inl (w1.1,w1.2))
 else none
 else
 some (.inr st.1)
noncomputable def bsearch (x:List α) (target:τ) (cmp:α→τ→Option Int):Option (Int×Bool):=
 bd (Loop (bsL x target cmp) (0,(x.length:Int))) fun w=>
 bd (
  if w<(x.length:Int) then
  ix x w fun y1=>
  bd (cmp y1 target) fun aV=>
  some (w,decide (aV=0))
  else
  some (w,false):Option (Int×Bool)) fun w2=>
 some (w2.1,w2.2)
theorem DM {L:List α} {s:Int} {cmp:α→Int→Option Int} (hs:sY key L) (hl:L.length<2^60) (hc: ∀a,cmp a s=some (HA (key a) s)):bsearch L s cmp=some ((rV key L s:Int),li key L s):=by
 obtain ⟨vi,ui⟩:=hs.lb s
 have hle:=Lo (key:=key) L s
 have iw:Loop (bsL L s cmp) (0,(L.length:Int))=some (rV key L s:Int):=by
  refine bV.eq (bV.loop (fun st=> ∃i j:Nat,st=((i:Int),(j:Int))∧i≤rV key L s∧rV key L s≤j∧j≤L.length) (fun st=>(st.2-st.1).toNat) ⟨0,L.length,rfl,Nat.zero_le _,hle,Nat.le_refl _⟩ ?_)
  rintro st ⟨i,j,rfl,hi,hj,Eh⟩
  unfold bsL
  by_cases dx:i<j
  ·have hm:(i+j)/2<L.length:=by omega
   simp only [show ((i:Int)<(j:Int)) by omega,if_true,show ((0:Int)≤1) by decide,Rq (by omega:i+j<2^62),cg hm,hc,aR]
   by_cases hlb:(i+j)/2<rV key L s
   ·have hk:=vi _ hm hlb
    have:HA (key L[(i+j)/2]) s= -1:=by simp [HA,hk]
    simp only [this,show ((-1:Int)<0) by decide,if_true,aR]
    rw [wrap64 (by omega) (by omega)]
    exact .mk ⟨⟨(i+j)/2+1,j,by simp,by omega,hj,Eh⟩,by omega⟩
   ·have hk:=ui _ hm (by omega)
    have: ¬HA (key L[(i+j)/2]) s<0:=by unfold HA;rw [if_neg (by omega)];split<;>omega
    simp only [this,if_false,aR]
    exact .mk ⟨⟨i,(i+j)/2,rfl,hi,by omega,by omega⟩,by omega⟩
  ·simp only [show¬((i:Int)<(j:Int)) by omega,if_false]
   exact .mk (by show (i:Int)=(rV key L s:Int);omega)
 unfold bsearch
 rw [iw]
 simp only [aR]
 by_cases dx:rV key L s<L.length
 ·simp only [show ((rV key L s:Int)<(L.length:Int)) by omega,if_true,cg dx,hc,aR]
  have h3:=ui _ dx (Nat.le_refl _)
  have:decide (HA (key L[rV key L s]) s=0)=li key L s:=by
   unfold HA
   rw [if_neg (by omega)]
   by_cases he:key L[rV key L s]=s
   ·rw [if_neg (by omega),decide_eq_true rfl,(hs.has s).2 ⟨dx,he⟩]
   ·rw [if_pos (by omega),decide_eq_false (by decide)]
    symm;rw [Bool.eq_false_iff]
    intro hh
    obtain ⟨_,hh⟩:=(hs.has s).1 hh
    exact he hh
  rw [this]
 ·simp only [show¬((rV key L s:Int)<(L.length:Int)) by omega,if_false,aR]
  have:li key L s=false:=by
   rw [Bool.eq_false_iff]
   intro hh
   obtain ⟨hh,_⟩:=(hs.has s).1 hh
   exact dx hh
  rw [this]
def DN (key:α→Int) (L:List α) (a:α):List α:=L.take (rV key L (key a))++[a]++L.drop (rV key L (key a))
theorem DO {L:List α} {a:α} {Yw:Nat} (hb:(L.length+1) *Yw≤2^46):pc Yw L (rV key L (key a):Int) [a]=some (DN key L a):=by
 unfold pc
 rw [if_pos]
 ·rfl
 ·exact ⟨by omega,by simpa using Lo L _,by simp,by simpa using hb⟩
theorem wD {L:List α} {Yw:Nat} (h:L.length *Yw≤2^46):iP Yw L=some L:=if_pos h
end
section
variable {α ρ:Type}
theorem take_succ {L:List α} {k:Nat} (hk:k<L.length):L.take (k+1)=L.take k++[L[k]]:=(List.take_append_getElem hk).symm
theorem Sf {body:Int→Option (Int⊕(Unit⊕ρ))} (n:Nat) (p:Nat→Prop) (c:ρ) (h: ∀k,k<n→(∀j,j<k→p j)→(p k→body (k:Int)=some (.inl ((k+1:Nat):Int)))∧(¬p k→body (k:Int)=some (.inr (.inr c))))
 (he:body (n:Int)=some (.inr (.inl ()))):bV (Loop body 0) fun r=>(r= .inl ()∧ ∀k,k<n→p k)∨(r= .inr c∧ ∃k,k<n∧ ¬p k):=by
 refine bV.count (fun k=>(k:Int)) n (fun k=> ∀j,j<k→p j) rfl (fun j hj=>by omega) (fun k hk hp=> ?_) (fun hp=> ?_)
 ·by_cases S6:p k
  ·refine .of ((h k hk hp).1 S6) ⟨rfl,fun j hj=> ?_⟩
   by_cases hjk:j=k
   ·subst hjk;exact S6
   ·exact hp j (by omega)
  ·exact .of ((h k hk hp).2 S6) (.inr ⟨rfl,k,hk,S6⟩)
 ·exact .of he (.inl ⟨rfl,hp⟩)
theorem Jv {ρ':Type} {body:Bool×Int→Option ((Bool×Int)⊕ρ')} (n:Nat) (p:Nat→Bool) (fin:Bool→ρ') (h: ∀k b,k<n→body (b,(k:Int))=some (.inl (b||p k,((k+1:Nat):Int)))) (he: ∀b,body (b,(n:Int))=some (.inr (fin b))):Loop body (false,0)=some (fin ((List.range n).any p)):=by
 refine bV.eq (bV.count (fun k=>((List.range k).any p,(k:Int))) n (fun _=>True) (by simp) trivial (fun k hk _=> ?_) (fun _=> ?_))
 ·refine .of (h k _ hk) ⟨?_,trivial⟩
  rw [List.range_succ,List.any_append];simp
 ·exact .of (he _) rfl
theorem Gb {L:List α} {q:α→Bool}:(List.range L.length).any (fun k=>(L[k]?).any q)=L.any q:=by
 rw [Bool.eq_iff_iff,List.any_eq_true,List.any_eq_true]
 constructor
 ·rintro ⟨k,hk,h⟩
  rw [List.mem_range] at hk
  rw [List.getElem?_eq_getElem hk] at h
  exact ⟨_,List.getElem_mem hk,h⟩
 ·rintro ⟨a,ha,h⟩
  obtain ⟨k,hk,rfl⟩:=List.mem_iff_getElem.1 ha
  refine ⟨k,List.mem_range.2 hk,?_⟩
  rw [List.getElem?_eq_getElem hk];exact h
theorem Ai [DecidableEq α] {a b:List α} {body:Int→Option (Int⊕(Unit⊕Bool))} (hl:a.length=b.length) (h: ∀k (ha:k<a.length) (hb:k<b.length),body (k:Int)=some (if a[k]=b[k] then .inl ((k+1:Nat):Int) else .inr (.inr false)))
 (he:body (a.length:Int)=some (.inr (.inl ()))):Loop body 0=some (if a=b then .inl () else .inr false):=by
 obtain ⟨r,e,hr⟩:=Sf (body:=body) a.length (fun k=>a[k]? =b[k]?) false (fun k hk _=>by
  have hkb:k<b.length:=by omega
  rw [List.getElem?_eq_getElem hk,List.getElem?_eq_getElem hkb,h k hk hkb]
  constructor
  ·intro hh;rw [if_pos (by simpa using hh)]
  ·intro hh;rw [if_neg (by simpa using hh)]) he
 rw [e]
 rcases hr with ⟨rfl,rC⟩|⟨rfl,k,hk,cG⟩
 ·rw [if_pos]
  refine List.ext_getElem? fun k=> ?_
  by_cases hk:k<a.length
  ·exact rC k hk
  ·rw [List.getElem?_eq_none (by omega),List.getElem?_eq_none (by omega)]
 ·rw [if_neg]
  intro U7;subst U7;exact cG rfl
end
end Dn
/-
  Maps as lists of entries: what is there behind a store. Conditions: none.
-/
set_option linter.unusedVariables false
namespace Dn
open Go
end Dn
/-
  A state in which variables of packages have given data. Conditions: none.
-/
set_option linter.unusedVariables false
set_option linter.unusedSimpArgs false
namespace Dn
open Go
def cellsD:Nat→DataW Unit→List Value
 |n+1,.agg ds=>ds.flatMap (cellsD n)
 |_,.lit (.int k v)=>[.int k v]
 |_,_=>[]
def O4 (cs:Array Value):Obj→Obj
 | .cells _ t z=> .cells cs t z
 |o=>o
def Ed (P:Program):List (String×DataW Unit)→Array Obj→Array Obj
 |[],h=>h
 |x::r,h=>match P.globalNamed x.1 with
  |some g=>Ed P r (h.modify g (O4 (cellsD 4 x.2).toArray))
  |none=>Ed P r h
noncomputable def acF (P:Program) (l:List (String×DataW Unit)) (os:Os) (args:Array Value):World:=
 {World.holding P os ⟨#[],args,[]⟩ with heap:=Ed P l (World.holding P os ⟨#[],args,[]⟩).heap}
theorem JU {a b:Bool} (h1:a=true) (h2:b=true):(a&&b)=true:=by rw [h1,h2];rfl
def wY:List Char:=[99,117,116].map Char.ofNat
theorem acG:(wY== "gc".toList)=false:=by kernel_rfl
theorem Vw:(wY== "spec".toList)=false:=by kernel_rfl
theorem YF:(wY== "cut".toList)=true:=by kernel_rfl
theorem LM:(wY== "carried".toList)=false:=by kernel_rfl
section
variable {P:Program} {L:List (List Char)} {ns:List Nat}
theorem Gn (h:P.initOrder=String.ofList (ns.map Char.ofNat)):P.initOrder.toList=ns.map Char.ofNat:=by rw [h,String.toList_ofList]
theorem Vx {h s:List Char} (e:wordsSigns P.initOrder.toList=h::s::L) (h1:isSumSigns s=true) (h2:(h== "harness".toList)=true):P.mainIs=some (true,s):=by
 unfold Program.mainIs
 rw [e]
 simp only [h1,h2,Bool.not_true,Bool.false_eq_true,if_false,if_true]
theorem Vy (e:behindMainWord (wordsSigns P.initOrder.toList)=wY::L):P.make=some .cut:=by
 unfold Program.make
 rw [e]
 simp only [acG,Vw,YF,Bool.or_false,Bool.false_eq_true,if_false,Bool.true_or,if_true]
theorem YG (e:behindMainWord (wordsSigns P.initOrder.toList)=wY::L) (h1:(stripLifts liftWords (wY::L)).1=[]) (h2:((stripLifts liftWords (wY::L)).2.head? ==some "cut".toList)=true)
 (h3:P.doorFits []=true) (h4:P.laysLater=false) (h5:P.bearsReflect=false):P.mayEnter=true:=by
 unfold Program.mayEnter
 rw [e]
 simp only [h1,h2,h3,h4,h5,List.contains_nil,Bool.false_or,Bool.not_false,Bool.true_and,Bool.and_true,Bool.or_true]
theorem SU (e:behindMainWord (wordsSigns P.initOrder.toList)=wY::L) (h1:(stripLifts liftWords (wY::L)).1=[]):P.liftsFinal=false:=by
 unfold Program.liftsFinal Program.headLifts
 rw [e]
 have h0:((wY::L).head? ==some "carried".toList)=false:=by
  simp only [List.head?_cons]
  have:=LM
  simpa using this
 simp only [h0,h1,Bool.false_and,Bool.false_or]
 split<;>rfl
theorem Vz {c:OpenClaim} (h:P.make=some .cut) (hc:c.make= .cut):(P.make==some c.make)=true:=by rw [h,hc];rfl
theorem SV {c:OpenClaim} (h:P.liftsFinal=false) (hc:c.lifted=false):(c.lifted==P.liftsFinal)=true:=by rw [h,hc];rfl
end
end Dn
