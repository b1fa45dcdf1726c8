import Derived.Test.YtbkodohojpchjaaGreatDoorDnC
import Derived.Shelf.Strings.Split
import Derived.Shelf.Strings.SlTrimAscii
import Derived.Shelf.Strings.Runes
import Derived.Lib.IndexBytes
import Derived.Control
import Derived.Test.YtbkodohojpchjaaGreatDoorDnB
import Derived.LaidLaws
import Derived.Deep.DeepLaidRun
import Derived.Handed
import Derived.JoinedOf
import Derived.KernelRfl
/-
  Functions of package strings as table entries, by the shelf's contracts. Conditions: none.
-/
set_option linter.unusedSimpArgs false
set_option linter.unusedVariables false
namespace Dn
open Go
theorem Rx (c:UInt8): ∀l:List UInt8,Lib.splitK [c] 0 (Lib.count l [c]) l=bU c l:=by
 intro l
 induction l with
 |nil=>rw [Lib.count_one];rfl
 |cons b l ih=>
  by_cases hb:b=c
  ·subst hb
   have SU:Lib.index (b::l) [b]=0:=by rw [Lib.index];simp [List.isPrefixOf]
   rw [Lib.count_cons_eq,Nat.add_comm,Lib.splitK,SU]
   simp [bU,ih]
  ·rw [Lib.count_cons_ne b c l hb]
   have hp:([c]:List UInt8).isPrefixOf (b::l)=false:=by simp [List.isPrefixOf,Ne.symm hb]
   have SU:Lib.index (b::l) [c]=if Lib.index l [c]== -1 then-1 else Lib.index l [c]+1:=by rw [Lib.index,hp];simp
   simp only [bU,hb,if_false]
   rw [←ih]
   cases hk:Lib.count l [c] with
   |zero=>rfl
   |succ k=>
    have cT:Lib.index l [c]≠ -1:=by intro he;rw [Lib.count_miss he] at hk;cases hk
    have SO:=Lib.index_ge l [c]
    obtain ⟨j,hj⟩: ∃j:Nat,Lib.index l [c]=j:=⟨(Lib.index l [c]).toNat,by omega⟩
    have Yl:(Lib.index l [c]== -1)=false:=by simpa using cT
    rw [Yl,if_neg (by decide)] at SU
    have aj5:(Lib.index (b::l) [c]== -1)=false:=by rw [SU,hj];simp;omega
    rw [Lib.splitK,Lib.splitK,Yl,aj5,SU,hj]
    have e1:((j:Int)+1).toNat=j+1:=by omega
    simp [e1]
theorem Ry (c:UInt8) (s:ByteArray):(Lib.splitB ⟨#[c]⟩ 0 (Lib.countB s ⟨#[c]⟩) s).map (·.data.toList)=bU c s.data.toList:=by
 rw [Lib.splitB_data]
 exact Rx c _
section
variable {P:Program} {ρ:Go.Shelf.Ren} {c:Ctx}
theorem B4 {f:FuncId} {args:Array Value} {w:World} {S:Ending→World→Prop} {R:Value→World→Prop} (he: ∀args w,(callFunc f args).run P w= .ok (.enter f args) w) (hc:Calls P f args w S) (h: ∀e w',S e w'→ ∃v,e= .returned v∧R v w'):
 fN P f args w R:=by
 unfold fN
 rw [he]
 exact hc.mono h
theorem J7 {key:Nat→Nat} {φ:Ph} {v:Value} {l:List UInt8} (h:ln key φ [v] (.s l)): ∃b:ByteArray,v= .string b∧b.data.toList=l:=by
 generalize hv:[v]=vs at h
 cases h
 rename_i b
 exact ⟨b,by simpa using hv,rfl⟩
theorem P7 {Z:Nat→Prop} {φ:Ph} {w:World} {k:Nat} {vs:List Value} {a b:List UInt8} (hg:c.eo k=false) (h:eR c Z φ w k vs [.s a,.s b]): ∃x y:ByteArray,vs=[.string x,.string y]∧x.data.toList=a∧y.data.toList=b:=by
 simp only [eR,hg,Bool.false_eq_true,if_false] at h
 obtain ⟨v,u,rfl,⟨_,h1⟩,v2,u2,rfl,⟨_,h2⟩,rfl⟩:=h
 obtain ⟨x,rfl,hx⟩:=J7 h1
 obtain ⟨y,rfl,hy⟩:=J7 h2
 exact ⟨x,y,rfl,hx,hy⟩
theorem Ym {Z:Nat→Prop} {φ:Ph} {w:World} {k:Nat} {kd:IntKind} {vs:List Value} {a:List UInt8} {n:Int} (hg:c.eo k=false) (h:eR c Z φ w k vs [.s a,.i kd n]): ∃x:ByteArray,vs=[.string x,.int kd n]∧x.data.toList=a:=by
 simp only [eR,hg,Bool.false_eq_true,if_false] at h
 obtain ⟨v,u,rfl,⟨_,h1⟩,v2,u2,rfl,⟨_,h2⟩,rfl⟩:=h
 obtain ⟨x,rfl,hx⟩:=J7 h1
 generalize hv:[v2]=vs at h2
 cases h2
 simp at hv
 subst hv
 exact ⟨x,rfl,hx⟩
theorem Rz (w:World) (q:Nat):Rest w (w.drewN q):=⟨rfl,rfl,rfl,fun _=>rfl⟩
theorem Va {φ:Ph} {w:World} (hi:zH φ w) {b:Nat} (hb:w.heap.size≤b) (off:Nat):φ b off=none:=by
 cases hp:φ b off with
 |none=>rfl
 |some u=>
  have:=World.block_lt_of_cell? w _ (hi _ _ _ hp)
  simp at this
  omega
theorem Yn (L:Go.Proofs.Lays.n160 P ρ) (afq:(P.info? (ρ.t 116)).map (fun i=>(i.zero,i.size))=some (some (.agg (Array.replicate 256 (.bool false))),256)) (hg:c.eo (c.key (ρ.f 160))=false) {ms:List MV} {r:MV} (h:Fk ms=some r):
 kM P c (ρ.f 160) ms r:=by
 unfold Fk at h
 split at h
 ·rename_i a b
  cases hb:(Nat.ble 1 a.length&&Nat.ble a.length (2^46))&&(Nat.ble 2 b.length&&(Nat.ble b.length 1000&&b.all fun x=>decide (x.toNat<128))) with
  |false=>rw [hb] at h;cases h
  |true=>
   rw [hb] at h
   simp only [cond_true,Option.some.injEq] at h
   subst h
   simp only [Bool.and_eq_true] at hb
   obtain ⟨⟨h1,h2⟩,h3,h4,h5⟩:=hb
   have h1:=Nat.le_of_ble_eq_true h1
   have h2:=Nat.le_of_ble_eq_true h2
   have h3:=Nat.le_of_ble_eq_true h3
   have h4:=Nat.le_of_ble_eq_true h4
   intro φ w Z vs hz ha hi
   obtain ⟨x,y,rfl,rfl,rfl⟩:=P7 hg ha
   refine B4 (Go.Proofs.enters_of L.f160 (by kernel_rfl) rfl) (Go.Proofs.Any.strings_Trim_set L (Go.zero_of_info afq).1 (Go.zero_of_info afq).2 x y w (by rw [Lib.size_eq];exact h3) (by rw [Lib.size_eq];omega) (by rw [Lib.size_eq];omega) (by rw [Lib.size_eq];omega) (Go.Proofs.ascii_of_all h5)) ?_
   rintro e w' ⟨rfl,q,rfl⟩
   refine ⟨_,rfl,φ,?_,?_,?_⟩
   ·have g1:=dv.alloc w (Lib.setCells y.data.toList) (ρ.t 116)
    have g2:=dv.alloc (w.alloc (.cells (Lib.setCells y.data.toList) (ρ.t 116))) (Lib.setCells y.data.toList) (ρ.t 116)
    have g:=g1.trans' g2
    exact ⟨.refl φ,fun b _ hl=>g.BB b hl,fun _ _ _=>rfl,g.size,g.rest.trans (Rz _ q)⟩
   ·intro b o v hv
    have g1:=dv.alloc w (Lib.setCells y.data.toList) (ρ.t 116)
    have g2:=dv.alloc (w.alloc (.cells (Lib.setCells y.data.toList) (ρ.t 116))) (Lib.setCells y.data.toList) (ρ.t 116)
    exact (g1.trans' g2).cell (hi b o v hv)
   ·exact ⟨rfl,by have:=ln.s (key:=c.key) (φ:=φ) (⟨(Lib.trimS x.data.toList y.data.toList).toArray⟩:ByteArray);simpa using this⟩
 ·cases h
theorem Oi (L:Go.Proofs.Lays.n151 P ρ) (hg:c.eo (c.key (ρ.f 151))=false) {ms:List MV} {r:MV} (h:qY ms=some r):kM P c (ρ.f 151) ms r:=by
 unfold qY at h
 split at h
 ·rename_i a n
  cases hb:decide (0≤n∧n<128) with
  |false=>rw [hb] at h;cases h
  |true=>
   rw [hb] at h
   simp only [cond_true,Option.some.injEq] at h
   subst h
   obtain ⟨h1,h2⟩:=of_decide_eq_true hb
   intro φ w Z vs hz ha hi
   obtain ⟨x,rfl,rfl⟩:=Ym hg ha
   refine B4 (Go.Proofs.enters_of L.f151 (by kernel_rfl) rfl) (Go.Proofs.Any.strings_ContainsRune_ascii L x n w h1 h2) ?_
   rintro e w' ⟨rfl,rfl⟩
   exact ⟨_,rfl,φ,.refl _ _ _,hi,rfl,.b _⟩
 ·cases h
open Go.Proofs Go.Shelf Go.RowKit in
theorem RB (L:Go.Proofs.Lays.n146 P ρ) (hi9:(P.info? (ρ.t 9)).map (fun i=>(i.zero,i.size,i.bytes))=some (some (.string ByteArray.empty),1,16)) (s:ByteArray) (b:UInt8) (w:World) (hs:s.size<4294967281):
 Calls P (ρ.f 146) #[.string s,.string ⟨#[b]⟩] w fun e w'=>
  e= .returned (.slice (some ⟨w.heap.size,0,none⟩) (Lib.countB s ⟨#[b]⟩+1) (Lib.countB s ⟨#[b]⟩+1))∧w'=w.alloc (.cells ((Lib.splitB ⟨#[b]⟩ 0 (Lib.countB s ⟨#[b]⟩) s).map Value.string).toArray (ρ.t 9)):=by
 have h1:1≤(⟨#[b]⟩:ByteArray).size:=Nat.le_refl _
 have hle:=Lib.countB_le ⟨#[b]⟩ h1 s.size s (Nat.le_refl _)
 have hlen:=Lib.splitB_all ⟨#[b]⟩ h1 0 _ s rfl
 have hC:Calls P (ρ.f 138) #[.string s,.string ⟨#[b]⟩] w fun e w'=>e= .returned (.int .i64 (Lib.countB s ⟨#[b]⟩))∧w'=w:=by
  refine (Any.strings_Count_one {L with} s b w).mono fun e w' ⟨he,hw⟩=>⟨?_,hw⟩
  rw [he]
  show _=Ending.returned (Value.int .i64 ((Lib.count s.data.toList [b]:Nat):Int))
  rw [Lib.count_one]
  rfl
 have c:=Any.strings_genSplit_core {L with} hi9 s ⟨#[b]⟩ 0 (-1) (Lib.countB s ⟨#[b]⟩+1) w hs h1 (Nat.zero_le _)
  (fun x q hx=>(Any.strings_Index_one {L with} x b _).mono fun e w' ⟨he,hw⟩=>⟨by rw [he];show _=Ending.returned (Value.int .i64 (Lib.index x.data.toList [b]));rw [Lib.index_one],hw⟩)
  hC (by decide) (by decide) (by rw [if_pos (by decide)];omega)
 rw [Nat.add_sub_cancel,hlen] at c
 have e2:Lib.cellsOf (Lib.splitB ⟨#[b]⟩ 0 (Lib.countB s ⟨#[b]⟩) s) (Lib.countB s ⟨#[b]⟩+1)=((Lib.splitB ⟨#[b]⟩ 0 (Lib.countB s ⟨#[b]⟩) s).map Value.string).toArray:=by rw [←hlen];exact Lib.cellsOf_full _
 rw [e2] at c
 clear hC hlen hle e2
 have t3:=L.t3;have t9:=L.t9;have t31:=L.t31
 have a3:=L.a3;have a9:=L.a9;have a31:=L.a31
 have z3:=L.z3;have v3:=L.v3;have z9:=L.z9;have v9:=L.v9;have z31:=L.z31;have v31:=L.v31
 have aoC: ∀args w,(callFunc (ρ.f 221) args).run P w= .ok (.enter (ρ.f 221) args) w:=enters_of L.f221 (by kernel_rfl) rfl
 go_enter L.f146,Body.n146_ntmps ρ
 go_wp2_with (go_at_fn (ρ.f 221);refine c.mono ?_;rintro e w' ⟨rfl,hw⟩;rw [hw])
 go_ret
 exact ⟨rfl,rfl⟩
theorem Fl {key:Nat→Nat} {φ:Ph}: ∀l:List ByteArray,ba key φ 1 (l.map Value.string) (l.map fun b=>MV.s b.data.toList)
 |[]=>rfl
 |b::l=>⟨[.string b],_,rfl,rfl,.s b,Fl l⟩
theorem Vb {I:TI} (L:Go.Proofs.Lays.n146 P ρ) (hi9:(P.info? (ρ.t 9)).map (fun i=>(i.zero,i.size,i.bytes))=some (some (.string ByteArray.empty),1,16)) (hg:c.eo (c.key (ρ.f 146))=false)
 (jn:c.rW (c.key (ρ.f 146))=ρ.t 9) (hI:c.tv (ρ.t 9)=some I) (M2:I.size=1) {ms:List MV} {r:MV} (h:xj ms=some r):kM P c (ρ.f 146) ms r:=by
 unfold xj at h
 split at h
 ·rename_i a b
  cases hb:Nat.ble a.length 4294967280 with
  |false=>rw [hb] at h;cases h
  |true=>
   rw [hb] at h
   simp only [cond_true,Option.some.injEq] at h
   subst h
   have hb:=Nat.le_of_ble_eq_true hb
   intro φ w Z vs hz ha hi
   obtain ⟨x,y,rfl,rfl,hy⟩:=P7 hg ha
   have hy':y=⟨#[b]⟩:=by
    cases y with
    |mk d=>congr 1;apply Array.toList_inj.1;exact hy
   subst hy'
   have hs:x.size<4294967281:=by rw [Lib.size_eq];omega
   refine B4 (Go.Proofs.enters_of L.f146 (by kernel_rfl) rfl) (RB L hi9 x b w hs) ?_
   rintro e w' ⟨rfl,rfl⟩
   have h1:1≤(⟨#[b]⟩:ByteArray).size:=Nat.le_refl _
   have hle:=Lib.countB_le ⟨#[b]⟩ h1 x.size x (Nat.le_refl _)
   have hlen:=Lib.splitB_all ⟨#[b]⟩ h1 0 _ x rfl
   have iV:=Ry b x
   have g1:=dv.alloc w ((Lib.splitB ⟨#[b]⟩ 0 (Lib.countB x ⟨#[b]⟩) x).map Value.string).toArray (ρ.t 9)
   obtain ⟨rX,hc⟩:=bO hI
   refine ⟨_,rfl,φ,g1.trans (Z:=bM.plain Z) hz φ,fun b' o v hv=>g1.cell (hi b' o v hv),?_⟩
   show db _ _ _ _ _ ⟨c.rW (c.key (ρ.f 146)),false,_⟩
   rw [jn]
   generalize hpc:Lib.splitB ⟨#[b]⟩ 0 (Lib.countB x ⟨#[b]⟩) x=pcs at *
   rw [←iV,List.map_map]
   refine ⟨I,pcs.map Value.string,rX,hc,?_,by rw [M2];exact Fl pcs,?_⟩
   ·rw [M2]
    refine ⟨by simp,.inr ⟨w.heap.size,Lib.countB x ⟨#[b]⟩+1,_,by simp [hlen],Nat.zero_le _,kl w _,by simp [hlen],by unfold Go.maxLen;rw [Lib.size_eq] at hle;omega,by simp [hlen],?_⟩⟩
    simp [List.take_of_length_le]
   ·intro bg jy
    simp [Value.ownBlock] at jy
    subst jy
    exact ⟨hz _ (Nat.le_refl _),fun off u hu=>(by have hu:φ w.heap.size off=some u:=hu;rw [Va hi (Nat.le_refl _)] at hu;cases hu),fun hc=>False.elim hc⟩
 ·cases h
end
end Dn
/-
  slices.IndexFunc and slices.DeleteFunc of the library, walked, with whatever function. Conditions: none.
-/
set_option linter.unusedSimpArgs false
set_option linter.unusedVariables false
namespace Dn
open Go
section
variable {P:Program} {Q:Exit→Act→World→Prop} {ops:Array Oper} {o:Oper} {a:Act} {w w':World} {n:Nat} {σ:Nat→Value}
theorem tm2 (v0 v1:Value) (k:Nat):Tm {tmps:= #[v0,v1]++Array.replicate k undef,defers:=[]} (k+2) (xe (xe (fun _=>undef) 0 v0) 1 v1):=by
 refine ⟨rfl,by simp [Nat.add_comm],fun q=> ?_⟩
 by_cases h0:q=0
 ·subst h0;show (#[v0,v1]++Array.replicate k undef).getD 0 undef=v0;simp [Array.getElem?_append]
 by_cases h1:q=1
 ·subst h1;show (#[v0,v1]++Array.replicate k undef).getD 1 undef=v1;simp [Array.getElem?_append]
 have e: ∀{x y:Nat},x≠y→Nat.beq x y=false:=fun {x y} h=>by
  cases hq:Nat.beq x y with
  |false=>rfl
  |true=>exact absurd (Nat.eq_of_beq_eq_true hq) h
 simp only [xe,e h0,e h1,cond_false]
 have h3:2≤q:=by omega
 simp [Array.getElem?_append,Array.getElem?_replicate,show¬q<2 by omega]
 by_cases hk:q-2<k<;>simp [hk]
theorem Tm.call {i d:Nat} {op:Op} {rest:List Nat} {f:Nat} {args:Array Value} {Rp:Value→World→Prop} (aE:Tm a n σ) (hi:ops[i]? =some o) (ho:aR o d op) (hd:d<n)
 (bT:(execOp (ev σ) o).run P w=(callFunc f args).run P w) (hc:fN P f args w Rp) (h: ∀v w' a',Rp v w'→Tm a' n (xe σ d v)→wpOps P ops Q rest a' w'):wpOps P ops Q (i::rest) a w:=by
 rw [wpOps_cons]
 unfold wpOp
 simp only [hi,Region.wanted,ho.guard,if_true]
 left
 refine tR (by rw [aE.eval];exact bT) hc ?_
 intro v w' hr
 rw [ho.dst]
 exact h v w' _ hr (aE.put hd v)
theorem J8 {d:Nat} {t el:TypeId} {x y:Operand} {e:Operand→Value} {g n c j size:Nat} {i:TypeInfo} (ho:aR o d (.indexAddr t x y)) (hu:P.underlying t=some (.slice el)) (hi:P.info? el=some i) (hs:i.size=size)
 (hx:e x= .slice (some ⟨g,0,none⟩) n c) (hy:e y= .int .i64 ((j:Nat):Int)) (hj:j<n) (w:World):(execOp e o).run P w= .ok (.value (.pointer (some ⟨g,j *size,none⟩))) w:=by
 have h2: ¬n≤j:=by omega
 simp [execOp,ho.op,hx,hy,Instr.indexAt,asIntOf,run_underlying hu,h2,Go.sizeOf,typeInfo,hi,hs,Addr.add_mid]
theorem DV {c:Ctx} {d:Nat} {t:TypeId} {I:TI} {x:Operand} {e:Operand→Value} {g off:Nat} {vs:List Value} (ho:aR o d (.load t x)) (hr:mX c.ti P t I) (hc:I.cL=[]) (ek:I.st=true) (hl:vs.length=I.size)
 (hx:e x= .pointer (some ⟨g,off,none⟩)) (hm:w.rangeAt g off vs):(execOp e o).run P w= .ok (.value (.agg vs.toArray)) w:=by
 rcases nq (P:=P) hr hc hl hm with ⟨_,h⟩|⟨h,_⟩
 ·have:=h w hm
  simp [execOp,ho.op,hx,this]
 ·rw [ek] at h;cases h
theorem Yo {d:Nat} {t:TypeId} {e:Operand→Value} {i:TypeInfo} {z:Value} (ho:aR o d (.alloc t)) (hi:P.info? t=some i) (hz:i.zero=some z) (w:World):
 (execOp e o).run P w= .ok (.value (.pointer (some ⟨w.heap.size,0,none⟩))) (w.alloc (.cells z.cells t)):=by
 simp [execOp,ho.op,Instr.alloc,zeroValue,typeInfo,hi,hz,newVar,newRow,newObj,Sem.run]
theorem P8 {c:Ctx} {t:TypeId} {I:TI} {x y:Operand} {e:Operand→Value} {g off:Nat} {v:Value} {arr:Array Value} {T:TypeId} (ho:CW o (.store t x y)) (hr:mX c.ti P t I) (hc:I.cL=[]) (hx:e x= .pointer (some ⟨g,off,none⟩)) (hy:e y=v)
 (hs:v.cells.toList.length=I.size) (iQ: ∀u∈v.cells.toList,u.oneCell'=true) (cW:w.heap[g]? =some (.cells arr T (0,0))) (wX:off+I.size≤arr.size):
 (execOp e o).run P w= .ok .skip (w.setRow g (arr.toList.take off++v.cells.toList++arr.toList.drop (off+I.size)).toArray):=by
 have:=mz (P:=P) (w:=w) hr hc hs iQ cW wX
 simp [execOp,ho.op,hx,hy,this]
theorem Tm.aao {i:Nat} {op:Op} {rest:List Nat} (aE:Tm a n σ) (hi:ops[i]? =some o) (ho:CW o op) (bT:(execOp (ev σ) o).run P w= .ok .skip w')
 (h:wpOps P ops Q rest a w'):wpOps P ops Q (i::rest) a w:=by
 rw [wpOps_cons]
 unfold wpOp
 simp only [hi,Region.wanted,ho.guard,if_true]
 left
 unfold Oper.wp
 rw [aE.eval,bT]
 simp only [Oper.upon]
 rw [ho.dst]
 exact h
theorem LW {d:Nat} {t t':TypeId} {x y:Operand} {e:Operand→Value} {p q:Int} (ho:aR o d (.binOp .lss t x y t')) (hx:e x= .int .i64 p) (hy:e y= .int .i64 q) (w:World):
 (execOp e o).run P w= .ok (.value (.bool (decide (p<q)))) w:=xf ho hx hy (fun w=>by simp [Go.binOp,Op.intCmp]) w
theorem P9 {d:Nat} {x y:Operand} {t:Array TypeId} {e:Operand→Value} {g:Nat} {lb:Array Value} {v:Value} (ho:aR o d (.call {callee:= .value x,args:= #[y],argTypes:=t})) (hx:e x= .func (.func g) #[] lb) (hy:e y=v) (w:World):
 (execOp e o).run P w=(callFunc g (#[v]++lb)).run P w:=by
 simp [execOp,ho.op,resolve,invoke,hx,hy,Deferred.ofValue]
theorem Yp {d:Nat} {x y:Operand} {t:Array TypeId} {e:Operand→Value} {g:Nat} {v u:Value} (ho:aR o d (.call {callee:= .value (.func g),args:= #[x,y],argTypes:=t})) (he:e (.func g)= .func (.func g) #[] #[]) (hx:e x=v) (hy:e y=u) (w:World):
 (execOp e o).run P w=(callFunc g #[v,u]).run P w:=by
 simp [execOp,ho.op,resolve,invoke,he,hx,hy,Deferred.ofValue]
end
def J9 (r:Nat→Nat) (o:Nat→Oper):Code:=
 .seq (.region (r 0) #[o 0] false) (.seq (.seq (.region (r 1) #[o 1,o 2,o 3] false) (.block 0 (.loop (.seq (.region (r 2) #[o 4] false) (.seq (.cond (.tmp 9) .skip (.exit 0)) (.seq (.block 1 (.seq (.region (r 3) #[o 5,o 6] false) (.seq (.region (r 4) #[o 7,o 8,o 9,o 10,o 11,o 12] false) (.cond (.tmp 16) (.seq (.region (r 5) #[o 13,o 14] false) .ret) .skip)))) (.region (r 6) #[o 15,o 16] false))))))) (.seq (.region (r 7) #[o 17] false) .ret))
structure abY (t el ti:Nat) (o:Nat→Oper):Prop where
 h0:aR (o 0) 4 (.assign (.const (.int .i64 0)))
 h1:aR (o 1) 6 (.move (.tmp 0))
 h2:aR (o 2) 7 (.call {callee:= .builtin .len,args:= #[.tmp 6],argTypes:= #[t]})
 h3:aR (o 3) 8 (.move (.const (.int .i64 0)))
 h4:aR (o 4) 9 (.binOp .lss ti (.tmp 8) (.tmp 7) ti)
 h5:aR (o 5) 10 (.move (.tmp 8))
 h6:aR (o 6) 5 (.assign (.tmp 10))
 h7:aR (o 7) 11 (.move (.tmp 1))
 h8:aR (o 8) 12 (.move (.tmp 0))
 h9:aR (o 9) 13 (.move (.tmp 5))
 PO:aR (o 10) 14 (.indexAddr t (.tmp 12) (.tmp 13))
 N7:aR (o 11) 15 (.load el (.tmp 14))
 N8:aR (o 12) 16 (.call {callee:= .value (.tmp 11),args:= #[.tmp 15],argTypes:= #[el]})
 N9:aR (o 13) 17 (.move (.tmp 5))
 Oa:aR (o 14) 4 (.assign (.tmp 17))
 Ob:aR (o 15) 18 (.binOp .add ti (.tmp 8) (.const (.int .i64 1)) ti)
 Oc:aR (o 16) 8 (.move (.tmp 18))
 UT:aR (o 17) 4 (.assign (.const (.int .i64 (-1))))
structure Vc (P:Program) (f t ti el:Nat) (fn:Func) (r:Nat→Nat) (o:Nat→Oper):Prop where
 pos:P.funcs[f]? =some fn
 name:(fn.name== "runtime.NumGoroutine")=false
 tmps:fn.ntmps=19
 res:fn.results= #[.tmp 4]
 body:fn.body=some (J9 r o)
 ops:abY t el ti o
 uG:P.underlying t=some (.slice el)
theorem Ka {P:Program} {fn:Func} {n:Nat} {a:Act} {w:World} {σ:Nat→Value} {R:Ending→World→Prop} {v:Value} (hr:fn.results= #[.tmp 4]) (aE:Tm a n σ) (h6:σ 4=v) (h:R (.returned v) w):bodyPost P fn R .ret a w:=by
 refine ⟨aE.defers,v,?_,h⟩
 have h2:a.tmps[4]?.getD undef=v:=by have:=aE.get 4;rw [h6] at this;simpa using this
 simp [results,hr,h2]
theorem LX {key:Nat→Nat} {φ:Ph} {size:Nat} {xs:List MV} {cells:List Value} (h:ba key φ size cells xs) {k:Nat} (hk:k<xs.length):
 ((cells.drop (k *size)).take size).length=size∧ln key φ ((cells.drop (k *size)).take size) xs[k]:=by
 obtain ⟨p1,v1,p2,he,DQ,wK,eQ⟩:=h.at (List.getElem?_eq_getElem hk)
 have:(cells.drop (k *size)).take size=v1:=by
  rw [he,List.append_assoc,←DQ,List.drop_left,←wK,List.take_left]
 rw [this]
 exact ⟨wK,eQ⟩
theorem Fm {key:Nat→Nat} {φ:Ph} {vs:List Value} {x:MV} (h:ln key φ vs x) {ms:List MV} (hx:x= .agg ms):fc key φ (.agg vs.toArray) x:=by
 subst hx
 cases h with
 |agg _ _ h=>exact ⟨vs.toArray,rfl,by simpa using h⟩
section
variable {P:Program} {c:Ctx} {f t ti el:Nat} {fn:Func} {r:Nat→Nat} {o:Nat→Oper} {E:TI} {n cp g0 g:Nat} {ad:Option Addr} {ob:Option Nat} {w:World} {lb:Array Value} {S:Type} {Inv:S→(Nat→Prop)→Ph→World→Prop} {step:S→MV→Option (Bool×S)}
theorem Vd (hf:Vc P f t ti el fn r o) (hp:vd P c g lb Inv step) (hT:kK P c.ti) (hE:c.tv el=some E) (ek:E.st=true) {xs:List MV} {cells:List Value} {di:Array Value} {T:TypeId} {φ0:Ph} {Z0:Nat→Prop} {s0 s':S} {ys:List MV}
 (EZ: ∀x∈xs,∃ms,x= .agg ms) (Le:0<xs.length→ad=some ⟨g0,0,none⟩∧ob=some g0∧w.heap[g0]? =some (.cells di T (0,0))∧di.toList.take (xs.length *E.size)=cells) (SP: ∀b,ob=some b→ ¬Z0 b∧b<w.heap.size∧ ∀off,φ0 b off=none)
 (iP:ba c.key φ0 E.size cells xs) (afr:xs.length<2^63) (hinv:Inv s0 Z0 φ0 w) (kF: ∀b,w.heap.size≤b→Z0 b) (jk:zH φ0 w) (hd:ma step s0 xs=some (ys,s')):
 Calls P f #[.slice ad xs.length cp,.func (.func g) #[] lb] w fun e W=> ∃Z φ,(∀b,ob=some b→W.heap[b]? =w.heap[b]?)∧
  ((e= .returned (.int .i64 (-1))∧ys=xs∧yL c ob Inv Z0 φ0 w s' Z φ W)∨
   ∃k,∃hk:k<xs.length,∃sk,e= .returned (.int .i64 (k:Int))∧ma step s0 (xs.take (k+1))=some (xs.take k,sk)∧yL c ob Inv Z0 φ0 w sk Z φ W):=by
 obtain ⟨nj,n7⟩:=bO hE
 obtain ⟨ie,z,nU,tm,QP,Yc,KM⟩:=oa (hT _ E nj) n7
 refine calls_of_wp hf.pos hf.body ?_
 rw [hf.tmps]
 generalize LY:(fun (e:Ending) (W:World)=> ∃Z φ,(∀b,ob=some b→W.heap[b]? =w.heap[b]?)∧
  ((e= .returned (.int .i64 (-1))∧ys=xs∧yL c ob Inv Z0 φ0 w s' Z φ W)∨
   ∃k,∃hk:k<xs.length,∃sk,e= .returned (.int .i64 (k:Int))∧ma step s0 (xs.take (k+1))=some (xs.take k,sk)∧yL c ob Inv Z0 φ0 w sk Z φ W))=abZ
 have key: ∀a:Act,Tm a 19 (xe (xe (fun _=>undef) 0 (.slice ad xs.length cp)) 1 (.func (.func g) #[] lb))→(J9 r o).wp P (bodyPost P fn abZ) a w:=by
  intro a aE
  unfold J9
  refine wp_seq (wp_region ?_)
  rw [show List.range (#[o 0]:Array Oper).size=[0] from rfl]
  refine aE.step (v:= .int .i64 0) rfl hf.ops.h0 (by decide) (cP hf.ops.h0 _) (fun a aE=> ?_)
  refine wp_seq (wp_seq (wp_region ?_))
  rw [show List.range (#[o 1,o 2,o 3]:Array Oper).size=[0,1,2] from rfl]
  refine aE.step (v:= .slice ad xs.length cp) rfl hf.ops.h1 (by decide) (aQ hf.ops.h1 _) (fun a aE=> ?_)
  refine aE.step (v:= .int .i64 ((xs.length:Nat):Int)) rfl hf.ops.h2 (by decide) (mB hf.ops.h2 hf.uG rfl _) (fun a aE=> ?_)
  refine aE.step (v:= .int .i64 0) rfl hf.ops.h3 (by decide) (aQ hf.ops.h3 _) (fun a aE=> ?_)
  refine wp_block (wp_loop (fun a W=> ∃σ,Tm a 19 σ∧σ 0= .slice ad xs.length cp∧σ 1= .func (.func g) #[] lb∧σ 7= .int .i64 ((xs.length:Nat):Int)∧ ∃k:Nat,k≤xs.length∧σ 8= .int .i64 (k:Int)∧
   (∀b,ob=some b→W.heap[b]? =w.heap[b]?)∧ ∃s Z φ,ma step s0 (xs.take k)=some (xs.take k,s)∧yL c ob Inv Z0 φ0 w s Z φ W)
   (fun a W=>match a.tmps.getD 8 undef with| .int _ k=>xs.length-k.toNat|_=>0) ?_ ?_)
  ·refine ⟨_,aE,rfl,rfl,rfl,0,Nat.zero_le _,rfl,fun _ _=>rfl,s0,Z0,φ0,rfl,⟨hinv,kF,fun b hb=> .inl hb,jk,.refl _ _ _,fun b off hb=>(SP b hb).2.2 off⟩⟩
  ·clear aE
   rintro a W ⟨σ,aE,h0,h1,h7,k,hk,h8,AB,s,Z,φ,hdk,hW⟩
   refine wp_seq (wp_region ?_)
   rw [show List.range (#[o 4]:Array Oper).size=[0] from rfl]
   have hm8:(match a.tmps.getD 8 undef with| .int _ k=>xs.length-k.toNat|_=>0)=xs.length-k:=by rw [aE.get 8,h8];simp
   rw [hm8]
   clear hm8
   refine aE.step (v:= .bool (decide ((k:Int)<(xs.length:Int)))) rfl hf.ops.h4 (by decide) (LW hf.ops.h4 h8 h7 _) (fun a aE=> ?_)
   refine wp_seq ?_
   by_cases da:k<xs.length
   rotate_left
   ·refine aE.cond (b:=false) (by show Value.bool (decide ((k:Int)<(xs.length:Int)))=_;rw [decide_eq_false (by omega)]) ?_
    simp only [Bool.false_eq_true,if_false]
    refine wp_exit ?_
    have hkn:k=xs.length:=by omega
    subst hkn
    rw [List.take_length] at hdk
    rw [hd] at hdk
    simp only [Option.some.injEq,Prod.mk.injEq] at hdk
    obtain ⟨rfl,rfl⟩:=hdk
    show Exit.then _ _ _ _ _
    refine wp_seq (wp_region ?_)
    rw [show List.range (#[o 17]:Array Oper).size=[0] from rfl]
    refine aE.step (v:= .int .i64 (-1)) rfl hf.ops.UT (by decide) (cP hf.ops.UT _) (fun a aE=> ?_)
    refine wp_ret ?_
    refine Ka hf.res aE (v:= .int .i64 (-1)) rfl ?_
    rw [←LY]
    exact ⟨Z,φ,AB,.inl ⟨rfl,rfl,hW⟩⟩
   ·refine aE.cond (b:=true) (by show Value.bool (decide ((k:Int)<(xs.length:Int)))=_;rw [decide_eq_true (by omega)]) ?_
    simp only [if_true]
    refine wp_skip ?_
    obtain ⟨ab0,Q4,cW,br⟩:=Le (by omega)
    have h0':=h0
    rw [ab0] at h0'
    obtain ⟨yk,sk,b,X4,e1,e2,e3⟩:=PU hd da
    rw [hdk] at e1
    simp only [Option.some.injEq,Prod.mk.injEq] at e1
    obtain ⟨rfl,rfl⟩:=e1
    have Ve:=iP.mono hW.tr.ph
    obtain ⟨hl,eQ⟩:=LX Ve da
    have ab1:W.rangeAt g0 (k *E.size) ((cells.drop (k *E.size)).take E.size):=by
     intro j v hj
     have GX:j<E.size:=by have:=(List.getElem?_eq_some_iff.1 hj).1;omega
     have hW0:W.heap[g0]? =some (.cells di T (0,0)):=(AB g0 Q4).trans cW
     rw [cell_of hW0,←Array.getElem?_toList]
     rw [List.getElem?_take_of_lt GX,List.getElem?_drop,←br,List.getElem?_take] at hj
     split at hj
     ·exact hj
     ·cases hj
    obtain ⟨ms,Lm⟩:=EZ _ (List.getElem_mem da)
    have N5:fc c.key φ (.agg ((cells.drop (k *E.size)).take E.size).toArray) xs[k]:=Fm eQ Lm
    refine wp_seq (wp_block ?_)
    refine wp_seq (wp_region ?_)
    rw [show List.range (#[o 5,o 6]:Array Oper).size=[0,1] from rfl]
    refine aE.step (v:= .int .i64 (k:Int)) rfl hf.ops.h5 (by decide) ((aQ hf.ops.h5 _).trans (by show Result.ok (Next.value (σ 8)) W=_;rw [h8])) (fun a aE=> ?_)
    refine aE.step (v:= .int .i64 (k:Int)) rfl hf.ops.h6 (by decide) (cP hf.ops.h6 _) (fun a aE=> ?_)
    refine wp_seq (wp_region ?_)
    rw [show List.range (#[o 7,o 8,o 9,o 10,o 11,o 12]:Array Oper).size=[0,1,2,3,4,5] from rfl]
    refine aE.step (v:= .func (.func g) #[] lb) rfl hf.ops.h7 (by decide) ((aQ hf.ops.h7 _).trans (by show Result.ok (Next.value (σ 1)) W=_;rw [h1])) (fun a aE=> ?_)
    refine aE.step (v:= .slice (some ⟨g0,0,none⟩) xs.length cp) rfl hf.ops.h8 (by decide) ((aQ hf.ops.h8 _).trans (by show Result.ok (Next.value (σ 0)) W=_;rw [h0'])) (fun a aE=> ?_)
    refine aE.step (v:= .int .i64 (k:Int)) rfl hf.ops.h9 (by decide) (aQ hf.ops.h9 _) (fun a aE=> ?_)
    refine aE.step rfl hf.ops.PO (by decide) (J8 hf.ops.PO hf.uG nU tm rfl rfl da _) (fun a aE=> ?_)
    refine aE.step rfl hf.ops.N7 (by decide) (DV hf.ops.N7 (hT _ E nj) n7 ek hl rfl ab1) (fun a aE=> ?_)
    refine aE.call rfl hf.ops.N8 (by decide) (P9 hf.ops.N8 rfl rfl _) (hp.call hW.inv hW.new hW.nT N5 e2) ?_
    rintro v W2 a ⟨rfl,φ',t1,t2,t3⟩ aE
    have WW: ∀b,ob=some b→ ¬Z b:=fun b hb hz=>by
     have:=SP b hb
     rcases hW.sub _ hz with h|h
     ·exact this.1 h
     ·omega
    have Py: ∀b,ob=some b→W2.heap[b]? =w.heap[b]? :=fun b hb=>(t1.heap b (WW b hb) (Nat.lt_of_lt_of_le (SP b hb).2.1 hW.tr.size)).trans (AB b hb)
    have Ru:yL c ob Inv Z0 φ0 w X4 Z φ' W2:=⟨t3,fun b hb=>hW.new b (Nat.le_trans t1.size hb),hW.sub,t2,hW.tr.trans (t1.sup fun b hb=> .inl (hW.sub b hb)),fun b off hb=>by rw [t1.free b off (WW b hb)];exact hW.free b off hb⟩
    cases b with
    |true=>
     refine aE.cond (b:=true) rfl ?_
     simp only [if_true]
     refine wp_seq (wp_region ?_)
     rw [show List.range (#[o 13,o 14]:Array Oper).size=[0,1] from rfl]
     refine aE.step (v:= .int .i64 (k:Int)) rfl hf.ops.N9 (by decide) (aQ hf.ops.N9 _) (fun a aE=> ?_)
     refine aE.step (v:= .int .i64 (k:Int)) rfl hf.ops.Oa (by decide) (cP hf.ops.Oa _) (fun a aE=> ?_)
     refine wp_ret ?_
     refine Ka hf.res aE (v:= .int .i64 (k:Int)) rfl ?_
     rw [←LY]
     exact ⟨Z,φ',Py,.inr ⟨k,da,X4,rfl,e3,Ru⟩⟩
    |false=>
     refine aE.cond (b:=false) rfl ?_
     simp only [Bool.false_eq_true,if_false]
     refine wp_skip ?_
     show Code.wp P (Code.region (r 6) #[o 15,o 16] false) _ a W2
     refine wp_region ?_
     rw [show List.range (#[o 15,o 16]:Array Oper).size=[0,1] from rfl]
     refine aE.step (v:= .int .i64 ((k+1:Nat):Int)) rfl hf.ops.Ob (by decide) (jR (q:=1) hf.ops.Ob h8 rfl (by omega) _) (fun a aE=> ?_)
     refine aE.step (v:= .int .i64 ((k+1:Nat):Int)) rfl hf.ops.Oc (by decide) (aQ hf.ops.Oc _) (fun a aE=> ?_)
     refine ⟨⟨_,aE,h0,h1,h7,k+1,by omega,rfl,Py,X4,Z,φ',?_,Ru⟩,?_⟩
     ·rw [e3]
      have e4:xs.take (k+1)=xs.take k++[xs[k]]:=by rw [List.take_add_one,List.getElem?_eq_getElem da];rfl
      rw [e4];rfl
     ·have:a.tmps.getD 8 undef= .int .i64 ((k+1:Nat):Int):=by rw [aE.get 8];rfl
      rw [this]
      simp
      omega
 exact key _ (tm2 _ _ 17)
end
end Dn
/-
  slices.DeleteFunc of the library, walked, with whatever function. Conditions: none.
-/
set_option linter.unusedSimpArgs false
set_option linter.unusedVariables false
namespace Dn
open Go
theorem xk {P:Program} {f:Nat} {fn:Func} {b:Code} {args:Array Value} {w:World} {R:Value→World→Prop} (eu:P.funcs[f]? =some fn) (Aw:(fn.name== "runtime.NumGoroutine")=false) (pa:fn.body=some b)
 (h:Calls P f args w fun e W=> ∃v,e= .returned v∧R v W):fN P f args w R:=by
 have bT:(callFunc f args).run P w= .ok (.enter f args) w:=by
  have El: ¬fn.name= "runtime.NumGoroutine" :=by simpa using Aw
  simp [callFunc,eu,El,pa]
 unfold fN
 rw [bT]
 exact h
def Fo (r:Nat→Nat) (o:Nat→Oper):Code:=
 .seq (.region (r 0) #[o 0] false) (.seq (.region (r 1) #[o 1,o 2,o 3,o 4] false) (.seq (.seq (.region (r 2) #[o 5,o 6] false) (.cond (.tmp 12) (.seq (.region (r 3) #[o 7,o 8] false) .ret) .skip)) (.seq (.seq (.region (r 4) #[o 9,o 10,o 11] false) (.block 0 (.loop (.seq (.seq (.region (r 5) #[o 12,o 13,o 14,o 15] false) (.cond (.tmp 19) .skip (.exit 0))) (.seq (.block 1 (.seq (.region (r 6) #[o 16,o 17,o 18,o 19,o 20,o 21] false) (.seq (.region (r 7) #[o 22,o 23,o 24,o 25] false) (.cond (.tmp 29) (.seq (.region (r 8) #[o 26,o 27,o 28,o 29,o 30] false) (.region (r 9) #[o 31,o 32,o 33] false)) .skip)))) (.region (r 10) #[o 34,o 35,o 36] false)))))) (.seq (.region (r 11) #[o 37,o 38,o 39,o 40] false) (.seq (.region (r 12) #[o 41,o 42,o 43,o 44] false) .ret)))))
structure Yq (t el ti tb fu fi:Nat) (o:Nat→Oper):Prop where
 h0:aR (o 0) 4 (.assign (.const (.slice none 0 0)))
 h1:aR (o 1) 8 (.move (.tmp 0))
 h2:aR (o 2) 9 (.move (.tmp 1))
 h3:aR (o 3) 10 (.call {callee:= .value (.func fi),args:= #[.tmp 8,.tmp 9],argTypes:= #[t,fu]})
 h4:aR (o 4) 5 (.assign (.tmp 10))
 h5:aR (o 5) 11 (.move (.tmp 5))
 h6:aR (o 6) 12 (.binOp .eql ti (.tmp 11) (.const (.int .i64 (-1))) ti)
 h7:aR (o 7) 13 (.move (.tmp 0))
 h8:aR (o 8) 4 (.assign (.tmp 13))
 h9:aR (o 9) 14 (.move (.tmp 5))
 PO:aR (o 10) 15 (.binOp .add ti (.tmp 14) (.const (.int .i64 1)) ti)
 N7:aR (o 11) 6 (.assign (.tmp 15))
 N8:aR (o 12) 16 (.move (.tmp 6))
 N9:aR (o 13) 17 (.move (.tmp 0))
 Oa:aR (o 14) 18 (.call {callee:= .builtin .len,args:= #[.tmp 17],argTypes:= #[t]})
 Ob:aR (o 15) 19 (.binOp .lss ti (.tmp 16) (.tmp 18) ti)
 Oc:aR (o 16) 22 (.move (.tmp 0))
 UT:aR (o 17) 23 (.move (.tmp 6))
 h18:aR (o 18) 24 (.indexAddr t (.tmp 22) (.tmp 23))
 h19:aR (o 19) 25 (.load el (.tmp 24))
 h20:aR (o 20) 7 (.alloc el)
 WY:CW (o 21) (.store el (.tmp 7) (.tmp 25))
 WZ:aR (o 22) 26 (.move (.tmp 1))
 W0:aR (o 23) 27 (.load el (.tmp 7))
 W5:aR (o 24) 28 (.call {callee:= .value (.tmp 26),args:= #[.tmp 27],argTypes:= #[el]})
 W6:aR (o 25) 29 (.unOp .not tb (.tmp 28))
 W7:aR (o 26) 30 (.move (.tmp 0))
 h27:aR (o 27) 31 (.move (.tmp 5))
 h28:aR (o 28) 32 (.load el (.tmp 7))
 h29:aR (o 29) 33 (.indexAddr t (.tmp 30) (.tmp 31))
 UU:CW (o 30) (.store el (.tmp 33) (.tmp 32))
 h31:aR (o 31) 34 (.move (.tmp 5))
 h32:aR (o 32) 35 (.binOp .add ti (.tmp 34) (.const (.int .i64 1)) ti)
 h33:aR (o 33) 5 (.assign (.tmp 35))
 h34:aR (o 34) 20 (.move (.tmp 6))
 h35:aR (o 35) 21 (.binOp .add ti (.tmp 20) (.const (.int .i64 1)) ti)
 h36:aR (o 36) 6 (.assign (.tmp 21))
 h37:aR (o 37) 36 (.move (.tmp 0))
 h38:aR (o 38) 37 (.move (.tmp 5))
 h39:aR (o 39) 38 (.slice t (.tmp 36) (some (.tmp 37)) none none)
 h40:CW (o 40) (.call {callee:= .builtin .clear,args:= #[.tmp 38],argTypes:= #[t]})
 h41:aR (o 41) 39 (.move (.tmp 0))
 h42:aR (o 42) 40 (.move (.tmp 5))
 h43:aR (o 43) 41 (.slice t (.tmp 39) none (some (.tmp 40)) none)
 h44:aR (o 44) 4 (.assign (.tmp 41))
structure Vf (P:Program) (f t ti tb fu fi el:Nat) (fn:Func) (r:Nat→Nat) (o:Nat→Oper):Prop where
 pos:P.funcs[f]? =some fn
 name:(fn.name== "runtime.NumGoroutine")=false
 tmps:fn.ntmps=42
 res:fn.results= #[.tmp 4]
 body:fn.body=some (Fo r o)
 ops:Yq t el ti tb fu fi o
 uG:P.underlying t=some (.slice el)
section
variable {P:Program} {c:Ctx} {f fi t ti tb fu el:Nat} {fn fni:Func} {r ri:Nat→Nat} {o oi:Nat→Oper} {E:TI} {cp g0 g:Nat} {ad:Option Addr} {ob:Option Nat} {w W W2:World} {lb:Array Value} {S:Type} {Inv:S→(Nat→Prop)→Ph→World→Prop} {step:S→MV→Option (Bool×S)} {Z0 Z:Nat→Prop} {φ0 φ:Ph} {s:S}
theorem yL.move (hp:vd P c g lb Inv step) (hW:yL c ob Inv Z0 φ0 w s Z φ W) (qT:W.heap.size≤W2.heap.size) (tN: ∀b,b<W.heap.size→ob≠some b→W2.heap[b]? =W.heap[b]?) (zm:Rest W W2) (WW: ∀b,ob=some b→ ¬Z b):
 yL c ob Inv Z0 φ0 w s (fun b=>(Z b∧b<W.heap.size)∨W2.heap.size≤b) φ W2:=by
 have hws:=hW.tr.size
 refine ⟨hp.mono (hp.frame hW.inv qT fun b hz hb=>tN b hb (fun e=>WW b e hz)) fun b hb=> .inl hb,fun b hb=> .inr hb,fun b hb=> ?_,fun b off v hv=> ?_,?_,hW.free⟩
 ·rcases hb with hb|hb
  ·exact hW.sub b hb.1
  ·exact .inr (by omega)
 ·have h1:=hW.nT b off v hv
  have da:=World.block_lt_of_cell? W _ h1
  have cT:ob≠some b:=by intro e;rw [hW.free b off e] at hv;cases hv
  rw [World.cell?_of_block (tN b da cT)]
  exact h1
 ·refine hW.tr.trans ⟨.refl _,fun b hb da=> ?_,fun _ _ _=>rfl,qT,zm⟩
  exact tN b da (fun e=>hb (.inr e))
structure afs (c:Ctx) (sz n cp:Nat) (cells:List Value) (di:Array Value) (φ:Ph) (i j:Nat) (ys:List MV):Prop where
 size:di.size=cp *sz
 done:ba c.key φ sz (di.toList.take (i *sz)) ys
 len:ys.length=i
 rest:(di.toList.take (n *sz)).drop (j *sz)=cells.drop (j *sz)
def Yr (c:Ctx) (ob:Option Nat) {S:Type} (Inv:S→(Nat→Prop)→Ph→World→Prop) (step:S→MV→Option (Bool×S)) (Z0:Nat→Prop) (φ0:Ph) (w:World) (xs ys:List MV) (s0 s':S) (v:Value) (W:World):Prop:=
 ∃Z φ,(∀b,ob=some b→W.heap[b]? =w.heap[b]?)∧((v= .int .i64 (-1)∧ys=xs∧yL c ob Inv Z0 φ0 w s' Z φ W)∨
  ∃k,∃hk:k<xs.length,∃sk,v= .int .i64 (k:Int)∧ma step s0 (xs.take (k+1))=some (xs.take k,sk)∧yL c ob Inv Z0 φ0 w sk Z φ W)
theorem LZ (hf:Vf P f t ti tb fu fi el fn r o) (T0:Vc P fi t ti el fni ri oi) (hp:vd P c g lb Inv step) (hT:kK P c.ti) (hE:c.tv el=some E) (ek:E.st=true) (eu:0<E.size) {xs:List MV} {cells:List Value} {di:Array Value} {s0 s':S} {ys:List MV}
 (EZ: ∀x∈xs,∃ms,x= .agg ms) (Le:0<xs.length→ad=some ⟨g0,0,none⟩∧ob=some g0∧w.heap[g0]? =some (.cells di el (0,0))∧di.toList.take (xs.length *E.size)=cells∧xs.length≤cp∧di.size=cp *E.size) (SP: ∀b,ob=some b→ ¬Z0 b∧b<w.heap.size∧ ∀off,φ0 b off=none)
 (iP:ba c.key φ0 E.size cells xs) (afr:xs.length<2^63) (hinv:Inv s0 Z0 φ0 w) (kF: ∀b,w.heap.size≤b→Z0 b) (jk:zH φ0 w) (hd:ma step s0 xs=some (ys,s')):
 Calls P f #[.slice ad xs.length cp,.func (.func g) #[] lb] w fun e W=> ∃v,e= .returned v∧ ∃Z φ,yL c ob Inv Z0 φ0 w s' Z φ W∧
  ((v= .slice ad xs.length cp∧ys=xs∧ ∀b,ob=some b→W.heap[b]? =w.heap[b]?)∨
   (0<xs.length∧v= .slice (some ⟨g0,0,none⟩) ys.length cp∧ ∃lS,W.heap[g0]? =some (.cells lS el (0,0))∧lS.size=cp *E.size∧ba c.key φ E.size (lS.toList.take (ys.length *E.size)) ys)):=by
 obtain ⟨nj,n7⟩:=bO hE
 obtain ⟨ie,z,nU,tm,QP,Yc,KM⟩:=oa (hT _ E nj) n7
 obtain ⟨ie2,z2,U3,Tr,hzr⟩:=zK hE hT
 rw [nU] at U3
 cases U3
 rw [Yc] at Tr
 cases Tr
 have hz1: ∀v∈z.cells.toList,v.oneCell'=true:=(hzr (oc c.key fun _ _=>none)).cells
 have aft:fN P fi #[.slice ad xs.length cp,.func (.func g) #[] lb] w (Yr c ob Inv step Z0 φ0 w xs ys s0 s'):=by
  refine xk T0.pos T0.name T0.body ((Vd T0 hp hT hE ek EZ (fun h=>⟨(Le h).1,(Le h).2.1,(Le h).2.2.1,(Le h).2.2.2.1⟩) SP iP afr hinv kF jk hd).mono ?_)
  rintro e W ⟨Z,φ,h1,h2⟩
  rcases h2 with ⟨rfl,h3,h4⟩|⟨k,hk,sk,rfl,h3,h4⟩
  ·exact ⟨_,rfl,Z,φ,h1,.inl ⟨rfl,h3,h4⟩⟩
  ·exact ⟨_,rfl,Z,φ,h1,.inr ⟨k,hk,sk,rfl,h3,h4⟩⟩
 refine calls_of_wp hf.pos hf.body ?_
 rw [hf.tmps]
 generalize LY:(fun (e:Ending) (W:World)=> ∃v,e= .returned v∧ ∃Z φ,yL c ob Inv Z0 φ0 w s' Z φ W∧
  ((v= .slice ad xs.length cp∧ys=xs∧ ∀b,ob=some b→W.heap[b]? =w.heap[b]?)∨
   (0<xs.length∧v= .slice (some ⟨g0,0,none⟩) ys.length cp∧ ∃lS,W.heap[g0]? =some (.cells lS el (0,0))∧lS.size=cp *E.size∧ba c.key φ E.size (lS.toList.take (ys.length *E.size)) ys)))=abZ
 have key: ∀a:Act,Tm a 42 (xe (xe (fun _=>undef) 0 (.slice ad xs.length cp)) 1 (.func (.func g) #[] lb))→(Fo r o).wp P (bodyPost P fn abZ) a w:=by
  intro a aE
  unfold Fo
  refine wp_seq (wp_region ?_)
  rw [show List.range (#[o 0]:Array Oper).size=[0] from rfl]
  refine aE.step (v:= .slice none 0 0) rfl hf.ops.h0 (by decide) (cP hf.ops.h0 _) (fun a aE=> ?_)
  refine wp_seq (wp_region ?_)
  rw [show List.range (#[o 1,o 2,o 3,o 4]:Array Oper).size=[0,1,2,3] from rfl]
  refine aE.step (v:= .slice ad xs.length cp) rfl hf.ops.h1 (by decide) (aQ hf.ops.h1 _) (fun a aE=> ?_)
  refine aE.step (v:= .func (.func g) #[] lb) rfl hf.ops.h2 (by decide) (aQ hf.ops.h2 _) (fun a aE=> ?_)
  refine aE.call rfl hf.ops.h3 (by decide) (Yp hf.ops.h3 rfl rfl rfl _) aft ?_
  clear aft
  rintro v W1 a1 ⟨Z,φ,AB,xb⟩ afu
  clear aE
  refine afu.step (v:=v) rfl hf.ops.h4 (by decide) (cP hf.ops.h4 _) (fun a2 UZ=> ?_)
  clear afu
  refine wp_seq (wp_seq (wp_region ?_))
  rw [show List.range (#[o 5,o 6]:Array Oper).size=[0,1] from rfl]
  refine UZ.step (v:=v) rfl hf.ops.h5 (by decide) (aQ hf.ops.h5 _) (fun a3 ab2=> ?_)
  clear UZ
  rcases xb with ⟨rfl,rfl,hW⟩|⟨k,hk,sk,rfl,hdk,hW⟩
  ·refine ab2.step (v:= .bool (decide ((-1:Int)= -1))) rfl hf.ops.h6 (by decide) (oO hf.ops.h6 rfl rfl _) (fun a aE=> ?_)
   refine aE.cond (b:=true) (by show Value.bool (decide ((-1:Int)= -1))=_;rfl) ?_
   simp only [if_true]
   refine wp_seq (wp_region ?_)
   rw [show List.range (#[o 7,o 8]:Array Oper).size=[0,1] from rfl]
   refine aE.step (v:= .slice ad ys.length cp) rfl hf.ops.h7 (by decide) (aQ hf.ops.h7 _) (fun a aE=> ?_)
   refine aE.step (v:= .slice ad ys.length cp) rfl hf.ops.h8 (by decide) (cP hf.ops.h8 _) (fun a aE=> ?_)
   refine wp_ret ?_
   refine Ka hf.res aE (v:= .slice ad ys.length cp) rfl ?_
   rw [←LY]
   exact ⟨_,rfl,Z,φ,hW,.inl ⟨rfl,rfl,AB⟩⟩
  ·refine ab2.step (v:= .bool (decide ((k:Int)= -1))) rfl hf.ops.h6 (by decide) (oO hf.ops.h6 rfl rfl _) (fun a aE=> ?_)
   refine aE.cond (b:=false) (by show Value.bool (decide ((k:Int)= -1))=_;rw [decide_eq_false (by omega)]) ?_
   simp only [Bool.false_eq_true,if_false]
   refine wp_skip ?_
   refine wp_seq (wp_seq (wp_region ?_))
   rw [show List.range (#[o 9,o 10,o 11]:Array Oper).size=[0,1,2] from rfl]
   refine aE.step (v:= .int .i64 (k:Int)) rfl hf.ops.h9 (by decide) (aQ hf.ops.h9 _) (fun a aE=> ?_)
   refine aE.step (v:= .int .i64 ((k+1:Nat):Int)) rfl hf.ops.PO (by decide) (jR (q:=1) hf.ops.PO rfl rfl (by omega) _) (fun a aE=> ?_)
   refine aE.step (v:= .int .i64 ((k+1:Nat):Int)) rfl hf.ops.N7 (by decide) (cP hf.ops.N7 _) (fun a4 afv=> ?_)
   clear ab2 aE
   obtain ⟨ab0,Q4,cW,br,afw,aj8⟩:=Le (by omega)
   have Ie:=SP g0 Q4
   have afx: ∀b,ob=some b→b=g0:=fun b hb=>by rw [Q4] at hb;exact (Option.some.inj hb).symm
   have hmul: ∀{a b:Nat},a≤b→a *E.size≤b *E.size:=fun h=>Nat.mul_le_mul_right _ h
   refine wp_block (wp_loop (fun a W=> ∃σ,Tm a 42 σ∧σ 0= .slice (some ⟨g0,0,none⟩) xs.length cp∧σ 1= .func (.func g) #[] lb∧ ∃i j:Nat,i<j∧j≤xs.length∧σ 5= .int .i64 (i:Int)∧σ 6= .int .i64 (j:Int)∧
    ∃lS sj Z φ yj,W.heap[g0]? =some (.cells lS el (0,0))∧ma step s0 (xs.take j)=some (yj,sj)∧yL c ob Inv Z0 φ0 w sj Z φ W∧afs c E.size xs.length cp cells lS φ i j yj)
    (fun a W=>match a.tmps.getD 6 undef with| .int _ k=>xs.length-k.toNat|_=>0) ?_ ?_)
   ·refine ⟨_,afv,by show Value.slice ad xs.length cp=_;rw [ab0],rfl,k,k+1,by omega,by omega,rfl,rfl,di,sk,Z,φ,xs.take k,(AB g0 Q4).trans cW,hdk,hW,⟨aj8,?_,by rw [List.length_take];omega,by rw [br]⟩⟩
    have h1:=(iP.mono hW.tr.ph).take k
    rw [←br,List.take_take] at h1
    have h2:Nat.min (k *E.size) (xs.length *E.size)=k *E.size:=Nat.min_eq_left (hmul (by omega))
    rw [show min (k *E.size) (xs.length *E.size)=k *E.size from h2] at h1
    exact h1
   ·clear AB hdk hW afv cW
    rintro a W ⟨σ,aE,h0,h1,i,j,NA,hjn,h5,h6,lS,sj,Z',φ',yj,AB,hdj,hW,hR⟩
    have hm6:(match a.tmps.getD 6 undef with| .int _ k=>xs.length-k.toNat|_=>0)=xs.length-j:=by rw [aE.get 6,h6];simp
    rw [hm6]
    clear hm6
    have WW: ∀b,ob=some b→ ¬Z' b:=fun b hb hz=>by
     have:=afx b hb
     subst this
     rcases hW.sub _ hz with h|h
     ·exact Ie.1 h
     ·have:=Ie.2.1;omega
    refine wp_seq (wp_seq (wp_region ?_))
    rw [show List.range (#[o 12,o 13,o 14,o 15]:Array Oper).size=[0,1,2,3] from rfl]
    refine aE.step (v:= .int .i64 (j:Int)) rfl hf.ops.N8 (by decide) ((aQ hf.ops.N8 _).trans (by show Result.ok (Next.value (σ 6)) W=_;rw [h6])) (fun a aE=> ?_)
    refine aE.step (v:= .slice (some ⟨g0,0,none⟩) xs.length cp) rfl hf.ops.N9 (by decide) ((aQ hf.ops.N9 _).trans (by show Result.ok (Next.value (σ 0)) W=_;rw [h0])) (fun a aE=> ?_)
    refine aE.step (v:= .int .i64 ((xs.length:Nat):Int)) rfl hf.ops.Oa (by decide) (mB hf.ops.Oa hf.uG rfl _) (fun a aE=> ?_)
    refine aE.step (v:= .bool (decide ((j:Int)<(xs.length:Int)))) rfl hf.ops.Ob (by decide) (LW hf.ops.Ob rfl rfl _) (fun a aE=> ?_)
    by_cases da:j<xs.length
    rotate_left
    ·
     refine aE.cond (b:=false) (by show Value.bool (decide ((j:Int)<(xs.length:Int)))=_;rw [decide_eq_false (by omega)]) ?_
     simp only [Bool.false_eq_true,if_false]
     refine wp_exit ?_
     have aj9:j=xs.length:=by omega
     subst aj9
     rw [List.take_length,hd] at hdj
     simp only [Option.some.injEq,Prod.mk.injEq] at hdj
     obtain ⟨rfl,rfl⟩:=hdj
     have hlen:=hR.len
     have qT:=hR.size
     have wX:i *E.size+(xs.length-i) *E.size≤lS.size:=by
      rw [←Nat.add_mul,qT];exact hmul (by omega)
     have tf:i *E.size≤xs.length *E.size:=hmul (by omega)
     have H5:xs.length *E.size≤cp *E.size:=hmul afw
     obtain ⟨zs,hzl,afy⟩:=xh (P:=P) (w:=W) (t:=t) (ty:=(o 40).type) (g:=g0) (off:=i *E.size) (n:=xs.length-i) (c:=cp-i) hf.uG nU Yc KM hz1 AB (by omega) wX
     have WR:g0<W.heap.size:=Nat.lt_of_lt_of_le Ie.2.1 hW.tr.size
     obtain ⟨W3,hW3⟩: ∃W3,W3=W.setRow g0 (lS.toList.take (i *E.size)++zs++lS.toList.drop (i *E.size+zs.length)).toArray:=⟨_,rfl⟩
     rw [←hW3] at afy
     have zn:=hW.move hp (W2:=W3) (by rw [hW3];simp [World.setRow]) (fun b _ cT=>by rw [hW3];exact setRow_other _ _ _ _ (fun e=>cT (by rw [Q4,e]))) (by rw [hW3];exact .setRow _ _ _) WW
     show Code.wp P (Code.seq _ _) _ a W
     refine wp_seq (wp_region ?_)
     rw [show List.range (#[o 37,o 38,o 39,o 40]:Array Oper).size=[0,1,2,3] from rfl]
     refine aE.step (v:= .slice (some ⟨g0,0,none⟩) xs.length cp) rfl hf.ops.h37 (by decide) ((aQ hf.ops.h37 _).trans (by show Result.ok (Next.value (σ 0)) W=_;rw [h0])) (fun a aE=> ?_)
     refine aE.step (v:= .int .i64 (i:Int)) rfl hf.ops.h38 (by decide) ((aQ hf.ops.h38 _).trans (by show Result.ok (Next.value (σ 5)) W=_;rw [h5])) (fun a aE=> ?_)
     refine aE.step rfl hf.ops.h39 (by decide) (mZ hf.ops.h39 hf.uG nU tm rfl rfl (by omega) (by omega) _) (fun a aE=> ?_)
     refine aE.aam (v:= .tuple #[]) rfl hf.ops.h40 (P3 hf.ops.h40 rfl afy) ?_
     refine wp_seq (wp_region ?_)
     rw [show List.range (#[o 41,o 42,o 43,o 44]:Array Oper).size=[0,1,2,3] from rfl]
     refine aE.step (v:= .slice (some ⟨g0,0,none⟩) xs.length cp) rfl hf.ops.h41 (by decide) ((aQ hf.ops.h41 _).trans (by show Result.ok (Next.value (σ 0)) W3=_;rw [h0])) (fun a aE=> ?_)
     refine aE.step (v:= .int .i64 (i:Int)) rfl hf.ops.h42 (by decide) ((aQ hf.ops.h42 _).trans (by show Result.ok (Next.value (σ 5)) W3=_;rw [h5])) (fun a aE=> ?_)
     refine aE.step (v:= .slice (some ⟨g0,0,none⟩) i cp) rfl hf.ops.h43 (by decide) (AF hf.ops.h43 hf.uG nU tm rfl rfl (by omega) _) (fun a aE=> ?_)
     refine aE.step (v:= .slice (some ⟨g0,0,none⟩) i cp) rfl hf.ops.h44 (by decide) (cP hf.ops.h44 _) (fun a aE=> ?_)
     refine wp_ret ?_
     refine Ka hf.res aE (v:= .slice (some ⟨g0,0,none⟩) i cp) rfl ?_
     rw [←LY]
     have n9:lS.toList.length=cp *E.size:=by rw [Array.length_toList,qT]
     refine ⟨_,rfl,_,φ',zn,.inr ⟨by omega,by rw [hlen],_,by rw [hW3];exact tY _ AB,?_,?_⟩⟩
     ·simp only [List.size_toArray,List.length_append,List.length_take,List.length_drop,n9,hzl]
      have:(xs.length-i) *E.size+i *E.size=xs.length *E.size:=by rw [←Nat.add_mul];congr 1;omega
      omega
     ·rw [hlen,List.append_assoc,List.take_append_of_le_length (by rw [List.length_take,n9];omega),List.take_take,Nat.min_self]
      exact hR.done
    ·refine aE.cond (b:=true) (by show Value.bool (decide ((j:Int)<(xs.length:Int)))=_;rw [decide_eq_true (by omega)]) ?_
     simp only [if_true]
     refine wp_skip ?_
     obtain ⟨yk,X4,b,sk2,e1,e2,e3⟩:=PU hd da
     rw [hdj] at e1
     simp only [Option.some.injEq,Prod.mk.injEq] at e1
     obtain ⟨rfl,rfl⟩:=e1
     have Ve:=iP.mono hW.tr.ph
     obtain ⟨hl,eQ⟩:=LX Ve da
     obtain ⟨IF,JB⟩: ∃IF,IF=(cells.drop (j *E.size)).take E.size:=⟨_,rfl⟩
     rw [←JB] at hl eQ
     have n9:lS.toList.length=cp *E.size:=by rw [Array.length_toList,hR.size]
     have hj1:j *E.size+E.size≤xs.length *E.size:=by rw [←Nat.succ_mul];exact hmul da
     have H5:xs.length *E.size≤cp *E.size:=hmul afw
     have tG:i *E.size+E.size≤j *E.size:=by rw [←Nat.succ_mul];exact hmul NA
     have ab1:W.rangeAt g0 (j *E.size) IF:=by
      intro q v hq
      have hql:q<E.size:=by have:=(List.getElem?_eq_some_iff.1 hq).1;omega
      rw [cell_of AB,←Array.getElem?_toList]
      rw [JB,List.getElem?_take_of_lt hql,←hR.rest,List.getElem?_drop,List.getElem?_take_of_lt (by omega)] at hq
      exact hq
     have iQ: ∀u∈IF,u.oneCell'=true:=fun u hu=>iP.wZ u (by rw [JB] at hu;exact List.mem_of_mem_drop (List.mem_of_mem_take hu))
     obtain ⟨ms,Lm⟩:=EZ _ (List.getElem_mem da)
     have N5:fc c.key φ' (.agg IF.toArray) xs[j]:=Fm eQ Lm
     have hsc:(Value.agg IF.toArray).cells.toList=IF:=by simp [Value.cells]
     refine wp_seq (wp_block ?_)
     refine wp_seq (wp_region ?_)
     rw [show List.range (#[o 16,o 17,o 18,o 19,o 20,o 21]:Array Oper).size=[0,1,2,3,4,5] from rfl]
     refine aE.step (v:= .slice (some ⟨g0,0,none⟩) xs.length cp) rfl hf.ops.Oc (by decide) ((aQ hf.ops.Oc _).trans (by show Result.ok (Next.value (σ 0)) W=_;rw [h0])) (fun a aE=> ?_)
     refine aE.step (v:= .int .i64 (j:Int)) rfl hf.ops.UT (by decide) ((aQ hf.ops.UT _).trans (by show Result.ok (Next.value (σ 6)) W=_;rw [h6])) (fun a aE=> ?_)
     refine aE.step rfl hf.ops.h18 (by decide) (J8 hf.ops.h18 hf.uG nU tm rfl rfl da _) (fun a aE=> ?_)
     refine aE.step rfl hf.ops.h19 (by decide) (DV hf.ops.h19 (hT _ E nj) n7 ek hl rfl ab1) (fun a aE=> ?_)
     refine aE.step rfl hf.ops.h20 (by decide) (Yo hf.ops.h20 nU Yc _) (fun a aE=> ?_)
     have aar:(W.alloc (.cells z.cells el)).heap[W.heap.size]? =some (.cells z.cells el (0,0)):=kl W _
     refine aE.aao rfl hf.ops.WY (P8 (v:= .agg IF.toArray) (off:=0) hf.ops.WY (hT _ E nj) n7 rfl rfl (by rw [hsc,hl]) (by rw [hsc];exact iQ) aar (by rw [KM];omega)) ?_
     rw [hsc]
     obtain ⟨W2,Ru⟩: ∃W2,W2=(W.alloc (.cells z.cells el)).setRow W.heap.size (z.cells.toList.take 0++IF++z.cells.toList.drop (0+E.size)).toArray:=⟨_,rfl⟩
     rw [←Ru]
     have K8:W2.heap.size=W.heap.size+1:=by rw [Ru,setRow_size];simp
     have hold: ∀b,b<W.heap.size→W2.heap[b]? =W.heap[b]? :=fun b hb=>by
      rw [Ru,setRow_other _ _ _ _ (by omega)]
      exact (dv.alloc W z.cells el).BB b hb
     have aas:W2.heap[W.heap.size]? =some (.cells IF.toArray el (0,0)):=by
      rw [Ru,tY _ aar]
      congr 3
      have:z.cells.toList.drop (0+E.size)=[]:=by rw [Nat.zero_add,List.drop_of_length_le];rw [Array.length_toList,KM];exact Nat.le_refl _
      rw [this];simp
     have Od:Rest W W2:=by rw [Ru];exact (Rest.alloc W z.cells el).trans (.setRow _ _ _)
     have WR:g0<W.heap.size:=Nat.lt_of_lt_of_le Ie.2.1 hW.tr.size
     have zn:=hW.move hp (W2:=W2) (by omega) (fun b hb _=>hold b hb) Od WW
     have ab3: ∀b,ob=some b→ ¬((Z' b∧b<W.heap.size)∨W2.heap.size≤b):=by
      intro b hb
      have:=afx b hb
      subst this
      rintro (h|h)
      ·exact WW b hb h.1
      ·omega
     have aat: ∀{W:World} {b:Nat},W.heap[b]? =some (.cells IF.toArray el (0,0))→W.rangeAt b 0 IF:=by
      intro W b hb q v hq
      rw [cell_of hb,Nat.zero_add]
      simpa using hq
     refine wp_seq (wp_region ?_)
     rw [show List.range (#[o 22,o 23,o 24,o 25]:Array Oper).size=[0,1,2,3] from rfl]
     refine aE.step (v:= .func (.func g) #[] lb) rfl hf.ops.WZ (by decide) ((aQ hf.ops.WZ _).trans (by show Result.ok (Next.value (σ 1)) W2=_;rw [h1])) (fun a aE=> ?_)
     refine aE.step rfl hf.ops.W0 (by decide) (DV hf.ops.W0 (hT _ E nj) n7 ek hl rfl (aat aas)) (fun a aE=> ?_)
     refine aE.call rfl hf.ops.W5 (by decide) (P9 hf.ops.W5 rfl rfl _) (hp.call zn.inv zn.new zn.nT N5 e2) ?_
     rintro v W3 a ⟨rfl,φ3,t1,t2,t3⟩ aE
     have Vg:W3.heap[g0]? =some (.cells lS el (0,0)):=(t1.heap g0 (ab3 g0 Q4) (by omega)).trans ((hold g0 WR).trans AB)
     have afz:W3.heap[W.heap.size]? =some (.cells IF.toArray el (0,0)):=(t1.heap _ (by rintro (h|h)<;>omega) (by omega)).trans aas
     have hW3:yL c ob Inv Z0 φ0 w sk2 (fun b=>(Z' b∧b<W.heap.size)∨W2.heap.size≤b) φ3 W3:=⟨t3,fun b hb=>zn.new b (Nat.le_trans t1.size hb),zn.sub,t2,zn.tr.trans (t1.sup fun b hb=> .inl (zn.sub b hb)),fun b off hb=>by rw [t1.free b off (ab3 b hb)];exact zn.free b off hb⟩
     refine aE.step (v:= .bool (!b)) rfl hf.ops.W6 (by decide) (PZ hf.ops.W6 rfl _) (fun a aE=> ?_)
     cases b with
     |true=>
      refine aE.cond (b:=false) rfl ?_
      simp only [Bool.false_eq_true,if_false]
      refine wp_skip ?_
      show Code.wp P (Code.region (r 10) #[o 34,o 35,o 36] false) _ a W3
      refine wp_region ?_
      rw [show List.range (#[o 34,o 35,o 36]:Array Oper).size=[0,1,2] from rfl]
      refine aE.step (v:= .int .i64 (j:Int)) rfl hf.ops.h34 (by decide) ((aQ hf.ops.h34 _).trans (by show Result.ok (Next.value (σ 6)) W3=_;rw [h6])) (fun a aE=> ?_)
      refine aE.step (v:= .int .i64 ((j+1:Nat):Int)) rfl hf.ops.h35 (by decide) (jR (q:=1) hf.ops.h35 rfl rfl (by omega) _) (fun a aE=> ?_)
      refine aE.step (v:= .int .i64 ((j+1:Nat):Int)) rfl hf.ops.h36 (by decide) (cP hf.ops.h36 _) (fun a aE=> ?_)
      refine ⟨⟨_,aE,h0,h1,i,j+1,by omega,by omega,h5,rfl,lS,sk2,_,φ3,yj,Vg,by rw [e3];rfl,hW3,⟨hR.size,hR.done.mono t1.ph,hR.len,?_⟩⟩,?_⟩
      ·rw [show (j+1) *E.size=j *E.size+E.size from Nat.succ_mul _ _,←List.drop_drop,←List.drop_drop,hR.rest]
      ·have:a.tmps.getD 6 undef= .int .i64 ((j+1:Nat):Int):=by rw [aE.get 6];rfl
       rw [this];simp;omega
     |false=>
      refine aE.cond (b:=true) rfl ?_
      simp only [if_true]
      refine wp_seq (wp_region ?_)
      rw [show List.range (#[o 26,o 27,o 28,o 29,o 30]:Array Oper).size=[0,1,2,3,4] from rfl]
      refine aE.step (v:= .slice (some ⟨g0,0,none⟩) xs.length cp) rfl hf.ops.W7 (by decide) ((aQ hf.ops.W7 _).trans (by show Result.ok (Next.value (σ 0)) W3=_;rw [h0])) (fun a aE=> ?_)
      refine aE.step (v:= .int .i64 (i:Int)) rfl hf.ops.h27 (by decide) ((aQ hf.ops.h27 _).trans (by show Result.ok (Next.value (σ 5)) W3=_;rw [h5])) (fun a aE=> ?_)
      refine aE.step rfl hf.ops.h28 (by decide) (DV hf.ops.h28 (hT _ E nj) n7 ek hl rfl (aat afz)) (fun a aE=> ?_)
      refine aE.step rfl hf.ops.h29 (by decide) (J8 hf.ops.h29 hf.uG nU tm rfl rfl (by omega) _) (fun a aE=> ?_)
      refine aE.aao rfl hf.ops.UU (P8 (v:= .agg IF.toArray) (off:=i *E.size) hf.ops.UU (hT _ E nj) n7 rfl rfl (by rw [hsc,hl]) (by rw [hsc];exact iQ) Vg (by rw [hR.size];omega)) ?_
      rw [hsc]
      obtain ⟨W4,hW4⟩: ∃W4,W4=W3.setRow g0 (lS.toList.take (i *E.size)++IF++lS.toList.drop (i *E.size+E.size)).toArray:=⟨_,rfl⟩
      rw [←hW4]
      have ab4:=hW3.move hp (W2:=W4) (by rw [hW4,setRow_size];exact Nat.le_refl _) (fun b _ cT=>by rw [hW4];exact setRow_other _ _ _ _ (fun e=>cT (by rw [Q4,e]))) (by rw [hW4];exact .setRow _ _ _) ab3
      refine wp_region ?_
      rw [show List.range (#[o 31,o 32,o 33]:Array Oper).size=[0,1,2] from rfl]
      refine aE.step (v:= .int .i64 (i:Int)) rfl hf.ops.h31 (by decide) ((aQ hf.ops.h31 _).trans (by show Result.ok (Next.value (σ 5)) W4=_;rw [h5])) (fun a aE=> ?_)
      refine aE.step (v:= .int .i64 ((i+1:Nat):Int)) rfl hf.ops.h32 (by decide) (jR (q:=1) hf.ops.h32 rfl rfl (by omega) _) (fun a aE=> ?_)
      refine aE.step (v:= .int .i64 ((i+1:Nat):Int)) rfl hf.ops.h33 (by decide) (cP hf.ops.h33 _) (fun a aE=> ?_)
      show Code.wp P (Code.region (r 10) #[o 34,o 35,o 36] false) _ a W4
      refine wp_region ?_
      rw [show List.range (#[o 34,o 35,o 36]:Array Oper).size=[0,1,2] from rfl]
      refine aE.step (v:= .int .i64 (j:Int)) rfl hf.ops.h34 (by decide) ((aQ hf.ops.h34 _).trans (by show Result.ok (Next.value (σ 6)) W4=_;rw [h6])) (fun a aE=> ?_)
      refine aE.step (v:= .int .i64 ((j+1:Nat):Int)) rfl hf.ops.h35 (by decide) (jR (q:=1) hf.ops.h35 rfl rfl (by omega) _) (fun a aE=> ?_)
      refine aE.step (v:= .int .i64 ((j+1:Nat):Int)) rfl hf.ops.h36 (by decide) (cP hf.ops.h36 _) (fun a aE=> ?_)
      refine ⟨⟨_,aE,h0,h1,i+1,j+1,by omega,by omega,rfl,rfl,_,sk2,_,φ3,yj++[xs[j]],by rw [hW4];exact tY _ Vg,by rw [e3];rfl,ab4,⟨?_,?_,by rw [List.length_append,hR.len];rfl,?_⟩⟩,?_⟩
      ·simp only [List.size_toArray,List.length_append,List.length_take,List.length_drop,n9,hl]
       omega
      ·rw [show (i+1) *E.size=i *E.size+E.size from Nat.succ_mul _ _]
       have h9:(lS.toList.take (i *E.size)++IF).length=i *E.size+E.size:=by rw [List.length_append,List.length_take,n9,hl];omega
       show ba c.key φ3 E.size (List.take (i *E.size+E.size) (lS.toList.take (i *E.size)++IF++lS.toList.drop (i *E.size+E.size))) _
       rw [←h9,List.take_left]
       exact (hR.done.mono t1.ph).append ⟨IF,[],by simp,hl,eQ.mono t1.ph,rfl⟩
      ·show (List.take (xs.length *E.size) (lS.toList.take (i *E.size)++IF++lS.toList.drop (i *E.size+E.size))).drop ((j+1) *E.size)=_
       have h8:cells.drop ((j+1) *E.size)=(lS.toList.take (xs.length *E.size)).drop ((j+1) *E.size):=by
        rw [show (j+1) *E.size=j *E.size+E.size from Nat.succ_mul _ _,←List.drop_drop,←List.drop_drop,hR.rest]
       rw [h8]
       apply List.ext_getElem?
       intro q
       have PO:(j+1) *E.size=j *E.size+E.size:=Nat.succ_mul _ _
       rw [List.getElem?_drop,List.getElem?_drop,List.getElem?_take,List.getElem?_take]
       split
       ·have h9:(lS.toList.take (i *E.size)++IF).length=i *E.size+E.size:=by rw [List.length_append,List.length_take,n9,hl];omega
        rw [List.getElem?_append_right (by rw [h9];omega),h9,List.getElem?_drop]
        congr 1
        omega
       ·rfl
      ·have:a.tmps.getD 6 undef= .int .i64 ((j+1:Nat):Int):=by rw [aE.get 6];rfl
       rw [this];simp;omega
 exact key _ (tm2 _ _ 40)
theorem Ys (hf:Vf P f t ti tb fu fi el fn r o) (T0:Vc P fi t ti el fni ri oi) (hT:kK P c.ti) (hE:c.tv el=some E) (ek:E.st=true) (eu:0<E.size):JY P c f el:=by
 refine ⟨?_⟩
 intro S Inv step g lb hp v0 xs ys w Z0 φ0 s0 s' EZ fV Dt hinv kF jk hd
 obtain ⟨nj,n7⟩:=bO hE
 obtain ⟨I,cells,hI,Tw,dK,iP,jy⟩:=fV.row
 have hI:c.ti el=some I:=hI
 rw [nj] at hI
 cases hI
 have dK:w.ownsRow 0 el E.size v0 xs.length cells:=dK
 have iP:ba c.key φ0 E.size cells xs:=iP
 have qf: ∀b,v0.ownBlock=some b→ ∀off,φ0 b off=none:=by
  intro b hb off
  cases h:φ0 b off with
  |none=>rfl
  |some u=>have:=((jy b hb).2.1 off u h).1;cases this
 rcases dK.2 with ⟨rfl,h0⟩|⟨gb,cap,di,rfl,_,cW,H5,DO,rY,NE⟩
 ·have hx:xs=[]:=List.eq_nil_of_length_eq_zero h0
  subst hx
  refine xk hf.pos hf.name hf.body ((LZ (ob:=none) (g0:=0) (di:= #[]) hf T0 hp hT hE ek eu (cp:=0) EZ (fun h=>absurd h (by simp)) (fun b hb=>by cases hb) iP (by simp) hinv kF jk hd).mono ?_)
  rintro e W ⟨v,rfl,Z,φ,hW,h1⟩
  rcases h1 with ⟨rfl,rfl,_⟩|⟨h1,_⟩
  ·exact ⟨_,rfl,Z,φ,hW,⟨E,[],nj,n7,⟨by simp,.inl ⟨rfl,rfl⟩⟩,rfl,fun bg hb=>by simp [Value.ownBlock] at hb⟩,fun _ h=>h⟩
  ·simp at h1
 ·have da:=bA cW
  have akb:xs.length<2^63:=by unfold Go.maxLen at DO;omega
  refine xk hf.pos hf.name hf.body ((LZ (ob:=some gb) (g0:=gb) hf T0 hp hT hE ek eu (cp:=cap) EZ (fun h=>⟨rfl,rfl,cW,NE,H5,rY⟩) (fun b hb=>by cases hb;exact ⟨Dt gb rfl,da,qf gb rfl⟩) iP akb hinv kF jk hd).mono ?_)
  rintro e W ⟨v,rfl,Z,φ,hW,h1⟩
  rcases h1 with ⟨rfl,rfl,h2⟩|⟨h0,rfl,lS,h2,h3,h4⟩
  ·refine ⟨_,rfl,Z,φ,hW,⟨E,cells,nj,n7,⟨dK.1,.inr ⟨gb,cap,di,rfl,Nat.zero_le _,(h2 gb rfl).trans cW,H5,DO,rY,NE⟩⟩,iP.mono hW.tr.ph,fun bg hb=>⟨hb,fun off u hu=> ?_,fun hc=>hc.elim⟩⟩,fun _ h=>h⟩
   have hu:φ bg off=some u:=hu
   rw [hW.free bg off hb] at hu;cases hu
  ·have hle:ys.length≤cap:=Nat.le_trans (UP hd) H5
   refine ⟨_,rfl,Z,φ,hW,⟨E,lS.toList.take (ys.length *E.size),nj,n7,⟨?_,.inr ⟨gb,cap,lS,rfl,Nat.zero_le _,?_,hle,DO,h3,rfl⟩⟩,h4,fun bg hb=>⟨hb,fun off u hu=> ?_,fun hc=>hc.elim⟩⟩,fun _ h=>h⟩
   ·exact h4.length
   ·have:lS=lS:=rfl
    exact h2
   ·have hu:φ bg off=some u:=hu
    rw [hW.free bg off hb] at hu;cases hu
end
end Dn
/-
  Reasoning about functions on typed values. Conditions: none.
-/
set_option linter.unusedVariables false
namespace Dn
open Go
section
variable {α R:Type}
theorem bx {l:List α} {k:Nat} (h:k<l.length) (K:α→Option R):ix l (k:Int) K=K l[k]:=by
 simp [ix,h]
theorem zY {l:List α} {i:Int} (h0:0≤i) (h:i.toNat<l.length) (K:α→Option R):ix l i K=K l[i.toNat]:=by
 simp [ix,h,h0]
@[simp] theorem Gt {A : Type} (x : Option A) : bd x (fun a => some a) = x := by cases x <;> rfl
end
def bq {A:Type} (x:Option A) (Q:A→Prop):Prop:= ∃a,x=some a∧Q a
section
variable {A B α σ ρ:Type}
theorem bq.mk {a:A} {Q:A→Prop} (h:Q a):bq (some a) Q:=⟨a,rfl,h⟩
theorem bq.of {x:Option A} {a:A} {Q:A→Prop} (e:x=some a) (h:Q a):bq x Q:=⟨a,e,h⟩
theorem bq.bd {x:Option A} {K:A→Option B} {P:A→Prop} {Q:B→Prop} (h:bq x P) (hk: ∀a,P a→bq (K a) Q):bq (bd x K) Q:=by
 obtain ⟨a,rfl,hp⟩:=h;exact hk a hp
theorem bq.imp {x:Option A} {P Q:A→Prop} (h:bq x P) (NT: ∀a,P a→Q a):bq x Q:=by
 obtain ⟨a,e,hp⟩:=h;exact ⟨a,e,NT a hp⟩
theorem bq.ix {l:List α} {k:Nat} {K:α→Option A} {Q:A→Prop} (h:k<l.length) (hk:bq (K l[k]) Q):bq (ix l (k:Int) K) Q:=by rw [bx h];exact hk
theorem bq.eq {x:Option A} {a:A} (h:bq x (· =a)):x=some a:=by obtain ⟨b,e,rfl⟩:=h;exact e
variable {body:σ→Option (Sum σ ρ)}
theorem bq.loop (I:σ→Prop) (μ:σ→Nat) {Q:ρ→Prop} {s:σ} (hs:I s) (h: ∀s,I s→bq (body s) fun x=>match x with| .inl s'=>I s'∧μ s'<μ s| .inr r=>Q r):bq (Loop body s) Q:=by
 refine U5 I μ Q (fun s hs=> ?_) hs
 obtain ⟨x,e,hx⟩:=h s hs
 cases x with
 |inl s'=>exact .inl ⟨s',e,hx⟩
 |inr r=>exact .inr ⟨r,e,hx⟩
theorem bq.count (S:Nat→σ) (n:Nat) {Q:ρ→Prop} (P:Nat→Prop) {s:σ} (e:s=S 0) (h0:P 0) (h: ∀k,k<n→P k→bq (body (S k)) fun x=>match x with| .inl s'=>s'=S (k+1)∧P (k+1)| .inr r=>Q r)
 (he:P n→bq (body (S n)) fun x=>match x with| .inl _=>False| .inr r=>Q r):bq (Loop body s) Q:=by
 subst e
 refine U6 S n Q P h0 (fun k hk hp=> ?_) (fun hp=> ?_)
 ·obtain ⟨x,e,hx⟩:=h k hk hp
  cases x with
  |inl s'=>obtain ⟨rfl,hx⟩:=hx;exact .inl ⟨e,hx⟩
  |inr r=>exact .inr ⟨r,e,hx⟩
 ·obtain ⟨x,e,hx⟩:=he hp
  cases x with
  |inl s'=>exact hx.elim
  |inr r=>exact ⟨r,e,hx⟩
end
theorem wrap64 {x:Int} (h1: -9223372036854775808≤x) (h2:x≤9223372036854775807):IntKind.wrap .i64 x=x:=Yf h1 h2
end Dn
/-
  Functions of the library, on typed values. Conditions: none.
-/
set_option linter.unusedVariables false
namespace Dn
open Go
def Kt (x y:Int):Int:=if x<y then-1 else if y<x then 1 else 0
def oZ {α:Type} (key:α→Int) (L:List α) (s:Int):Nat:=L.countP (fun e=>decide (key e<s))
def ki {α:Type} (key:α→Int) (L:List α) (s:Int):Bool:=L.any fun e=>decide (key e=s)
def qC {α:Type} (key:α→Int) (L:List α):Prop:=L.Pairwise fun a b=>key a<key b
section
variable {α τ:Type} {key:α→Int}
theorem acy {L:List α} {s:Int} {p:Nat} (hp:p≤L.length) (h1: ∀k (hk:k<L.length),k<p→key L[k]<s) (h2: ∀k (hk:k<L.length),p≤k→s≤key L[k]):oZ key L s=p:=by
 have h3:(L.take p).countP (fun e=>decide (key e<s))=(L.take p).length:=by
  rw [List.countP_eq_length]
  intro a ha
  obtain ⟨k,hk,rfl⟩:=List.mem_iff_getElem.1 ha
  have JF:k<p:=by rw [List.length_take] at hk;omega
  rw [List.getElem_take]
  exact decide_eq_true (h1 k (by omega) JF)
 have h4:(L.drop p).countP (fun e=>decide (key e<s))=0:=by
  rw [List.countP_eq_zero]
  intro a ha
  obtain ⟨k,hk,rfl⟩:=List.mem_iff_getElem.1 ha
  rw [List.length_drop] at hk
  rw [List.getElem_drop]
  have:=h2 (p+k) (by omega) (by omega)
  simp;omega
 have h5:oZ key L s=(L.take p++L.drop p).countP (fun e=>decide (key e<s)):=by rw [List.take_append_drop];rfl
 rw [h5,List.countP_append,h3,h4,List.length_take]
 omega
theorem qC.lt {L:List α} (hs:qC key L) {i j:Nat} (hj:j<L.length) (h:i<j):key (L[i]'(by omega))<key L[j]:=List.pairwise_iff_getElem.1 hs i j (by omega) hj h
theorem qC.le {L:List α} (hs:qC key L) {i j:Nat} (hj:j<L.length) (h:i≤j):key (L[i]'(by omega))≤key L[j]:=by
 rcases Nat.lt_or_eq_of_le h with h|h
 ·exact Int.le_of_lt (hs.lt hj h)
 ·subst h;exact Int.le_refl _
theorem OQ (L:List α) (s:Int):oZ key L s≤L.length:=List.countP_le_length
theorem qC.lb {L:List α} (hs:qC key L) (s:Int):(∀k (hk:k<L.length),k<oZ key L s→key L[k]<s)∧(∀k (hk:k<L.length),oZ key L s≤k→s≤key L[k]):=by
 have: ∃p,p≤L.length∧(∀k (hk:k<L.length),k<p→key L[k]<s)∧(∀k (hk:k<L.length),p≤k→s≤key L[k]):=by
  induction L with
  |nil=>exact ⟨0,Nat.le_refl _,fun k hk=>by simp at hk,fun k hk=>by simp at hk⟩
  |cons a l ih=>
   have xR:=List.pairwise_cons.1 hs
   by_cases ha:key a<s
   ·obtain ⟨p,h1,h2,h3⟩:=ih xR.2
    refine ⟨p+1,by simp;omega,fun k hk OR=> ?_,fun k hk OR=> ?_⟩
    ·cases k with
     |zero=>exact ha
     |succ k=>exact h2 k (by simpa using hk) (by omega)
    ·cases k with
     |zero=>omega
     |succ k=>exact h3 k (by simpa using hk) (by omega)
   ·refine ⟨0,Nat.zero_le _,fun k hk OR=>by omega,fun k hk _=> ?_⟩
    cases k with
    |zero=>simp;omega
    |succ k=>
     have:=xR.1 (l[k]'(by simpa using hk)) (List.getElem_mem _)
     simp only [List.getElem_cons_succ];omega
 obtain ⟨p,h1,h2,h3⟩:=this
 rw [acy h1 h2 h3]
 exact ⟨h2,h3⟩
theorem qC.has {L:List α} (hs:qC key L) (s:Int):ki key L s=true↔ ∃h:oZ key L s<L.length,key L[oZ key L s]=s:=by
 obtain ⟨h1,h2⟩:=hs.lb s
 unfold ki
 rw [List.any_eq_true]
 constructor
 ·rintro ⟨x,hx,he⟩
  obtain ⟨k,hk,rfl⟩:=List.mem_iff_getElem.1 hx
  have he:key L[k]=s:=by simpa using he
  have SO:oZ key L s≤k:=by
   refine Nat.le_of_not_lt fun da=> ?_
   have:=h1 k hk da;omega
  have hl:oZ key L s<L.length:=by omega
  refine ⟨hl,?_⟩
  have:=h2 _ hl (Nat.le_refl _)
  have:=hs.le hk SO
  omega
 ·rintro ⟨h,he⟩
  exact ⟨_,List.getElem_mem h,decide_eq_true he⟩
theorem Bn {L:List α} {s:Int}:ki key L s=true↔ ∃x∈L,key x=s:=by simp [ki]
noncomputable def bsL (x:List α) (target:τ) (cmp:α→τ→Option Int) (st:Int×Int):Option ((Int×Int)⊕Int):=
 if st.1<st.2 then
 if (0:Int)≤1 then
 ix x (IntKind.wrap .i64 (Int.fdiv (IntKind.wrap .u64 (IntKind.wrap .i64 (st.1+st.2))) (2^min (Int.toNat 1) (IntKind.bits .u64)))) fun y=>
 bd (cmp y target) fun rA=>
 bd (
  if rA<0 then
  some (IntKind.wrap .i64 ((IntKind.wrap .i64 (Int.fdiv (IntKind.wrap .u64 (IntKind.wrap .i64 (st.1+st.2))) (2^min (Int.toNat 1) (IntKind.bits .u64))))+1),st.2)
  else
  some (st.1,IntKind.wrap .i64 (Int.fdiv (IntKind.wrap .u64 (IntKind.wrap .i64 (st.1+st.2))) (2^min (Int.toNat 1) (IntKind.bits .u64)))):Option (Int×Int)) fun w1=>
 some (.inl (w1.1,w1.2))
 else none
 else
 some (.inr st.1)
noncomputable def bsearch (x:List α) (target:τ) (cmp:α→τ→Option Int):Option (Int×Bool):=
 bd (Loop (bsL x target cmp) (0,(x.length:Int))) fun w=>
 bd (
  if w<(x.length:Int) then
  ix x w fun y1=>
  bd (cmp y1 target) fun aY=>
  some (w,decide (aY=0))
  else
  some (w,false):Option (Int×Bool)) fun w2=>
 some (w2.1,w2.2)
theorem Gu {L:List α} {s:Int} {cmp:α→Int→Option Int} (hs:qC key L) (hl:L.length<2^60) (hc: ∀a,cmp a s=some (Kt (key a) s)):bsearch L s cmp=some ((oZ key L s:Int),ki key L s):=by
 obtain ⟨uV,vT⟩:=hs.lb s
 have hle:=OQ (key:=key) L s
 have fT:Loop (bsL L s cmp) (0,(L.length:Int))=some (oZ key L s:Int):=by
  refine bq.eq (bq.loop (fun st=> ∃i j:Nat,st=((i:Int),(j:Int))∧i≤oZ key L s∧oZ key L s≤j∧j≤L.length) (fun st=>(st.2-st.1).toNat) ⟨0,L.length,rfl,Nat.zero_le _,hle,Nat.le_refl _⟩ ?_)
  rintro st ⟨i,j,rfl,hi,hj,GX⟩
  unfold bsL
  by_cases da:i<j
  ·have hm:(i+j)/2<L.length:=by omega
   simp only [show ((i:Int)<(j:Int)) by omega,if_true,show ((0:Int)≤1) by decide,U4 (by omega:i+j<2^62),bx hm,hc,aC]
   by_cases hlb:(i+j)/2<oZ key L s
   ·have hk:=uV _ hm hlb
    have:Kt (key L[(i+j)/2]) s= -1:=by simp [Kt,hk]
    simp only [this,show ((-1:Int)<0) by decide,if_true,aC]
    rw [wrap64 (by omega) (by omega)]
    exact .mk ⟨⟨(i+j)/2+1,j,by simp,by omega,hj,GX⟩,by omega⟩
   ·have hk:=vT _ hm (by omega)
    have: ¬Kt (key L[(i+j)/2]) s<0:=by unfold Kt;rw [if_neg (by omega)];split<;>omega
    simp only [this,if_false,aC]
    exact .mk ⟨⟨i,(i+j)/2,rfl,hi,by omega,by omega⟩,by omega⟩
  ·simp only [show¬((i:Int)<(j:Int)) by omega,if_false]
   exact .mk (by show (i:Int)=(oZ key L s:Int);omega)
 unfold bsearch
 rw [fT]
 simp only [aC]
 by_cases da:oZ key L s<L.length
 ·simp only [show ((oZ key L s:Int)<(L.length:Int)) by omega,if_true,bx da,hc,aC]
  have h3:=vT _ da (Nat.le_refl _)
  have:decide (Kt (key L[oZ key L s]) s=0)=ki key L s:=by
   unfold Kt
   rw [if_neg (by omega)]
   by_cases he:key L[oZ key L s]=s
   ·rw [if_neg (by omega),decide_eq_true rfl,(hs.has s).2 ⟨da,he⟩]
   ·rw [if_pos (by omega),decide_eq_false (by decide)]
    symm;rw [Bool.eq_false_iff]
    intro hh
    obtain ⟨_,hh⟩:=(hs.has s).1 hh
    exact he hh
  rw [this]
 ·simp only [show¬((oZ key L s:Int)<(L.length:Int)) by omega,if_false,aC]
  have:ki key L s=false:=by
   rw [Bool.eq_false_iff]
   intro hh
   obtain ⟨hh,_⟩:=(hs.has s).1 hh
   exact da hh
  rw [this]
def Gv (key:α→Int) (L:List α) (a:α):List α:=L.take (oZ key L (key a))++[a]++L.drop (oZ key L (key a))
theorem Gw {L:List α} {a:α} {by':Nat} (hb:(L.length+1) *by'≤2^46):qo by' L (oZ key L (key a):Int) [a]=some (Gv key L a):=by
 unfold qo
 rw [if_pos]
 ·rfl
 ·exact ⟨by omega,by simpa using OQ L _,by simp,by simpa using hb⟩
theorem yA {L:List α} {by':Nat} (h:L.length *by'≤2^46):jB by' L=some L:=if_pos h
end
section
variable {α ρ:Type}
theorem take_succ {L:List α} {k:Nat} (hk:k<L.length):L.take (k+1)=L.take k++[L[k]]:=(List.take_append_getElem hk).symm
theorem pH {body:Int→Option (Int⊕(Unit⊕ρ))} (n:Nat) (p:Nat→Prop) (c:ρ) (h: ∀k,k<n→(∀j,j<k→p j)→(p k→body (k:Int)=some (.inl ((k+1:Nat):Int)))∧(¬p k→body (k:Int)=some (.inr (.inr c))))
 (he:body (n:Int)=some (.inr (.inl ()))):bq (Loop body 0) fun r=>(r= .inl ()∧ ∀k,k<n→p k)∨(r= .inr c∧ ∃k,k<n∧ ¬p k):=by
 refine bq.count (fun k=>(k:Int)) n (fun k=> ∀j,j<k→p j) rfl (fun j hj=>by omega) (fun k hk hp=> ?_) (fun hp=> ?_)
 ·by_cases WV:p k
  ·refine .of ((h k hk hp).1 WV) ⟨rfl,fun j hj=> ?_⟩
   by_cases Rk:j=k
   ·subst Rk;exact WV
   ·exact hp j (by omega)
  ·exact .of ((h k hk hp).2 WV) (.inr ⟨rfl,k,hk,WV⟩)
 ·exact .of he (.inl ⟨rfl,hp⟩)
theorem Cn [DecidableEq α] {a b:List α} {body:Int→Option (Int⊕(Unit⊕Bool))} (hl:a.length=b.length) (h: ∀k (ha:k<a.length) (hb:k<b.length),body (k:Int)=some (if a[k]=b[k] then .inl ((k+1:Nat):Int) else .inr (.inr false)))
 (he:body (a.length:Int)=some (.inr (.inl ()))):Loop body 0=some (if a=b then .inl () else .inr false):=by
 obtain ⟨r,e,hr⟩:=pH (body:=body) a.length (fun k=>a[k]? =b[k]?) false (fun k hk _=>by
  have hkb:k<b.length:=by omega
  rw [List.getElem?_eq_getElem hk,List.getElem?_eq_getElem hkb,h k hk hkb]
  constructor
  ·intro hh;rw [if_pos (by simpa using hh)]
  ·intro hh;rw [if_neg (by simpa using hh)]) he
 rw [e]
 rcases hr with ⟨rfl,ni⟩|⟨rfl,k,hk,cT⟩
 ·rw [if_pos]
  refine List.ext_getElem? fun k=> ?_
  by_cases hk:k<a.length
  ·exact ni k hk
  ·rw [List.getElem?_eq_none (by omega),List.getElem?_eq_none (by omega)]
 ·rw [if_neg]
  intro VS;subst VS;exact cT rfl
end
end Dn
/-
  Maps as lists of entries: what is there behind a store. Conditions: none.
-/
set_option linter.unusedVariables false
namespace Dn
open Go
end Dn
/-
  A state in which variables of packages have given data. Conditions: none.
-/
set_option linter.unusedVariables false
set_option linter.unusedSimpArgs false
namespace Dn
open Go
def cellsD:Nat→DataW Unit→List Value
 |n+1,.agg ds=>ds.flatMap (cellsD n)
 |_,.lit (.int k v)=>[.int k v]
 |_,_=>[]
def SE (cs:Array Value):Obj→Obj
 | .cells _ t z=> .cells cs t z
 |o=>o
def GU (P:Program):List (String×DataW Unit)→Array Obj→Array Obj
 |[],h=>h
 |x::r,h=>match P.globalNamed x.1 with
  |some g=>GU P r (h.modify g (SE (cellsD 4 x.2).toArray))
  |none=>GU P r h
noncomputable def ag9 (P:Program) (l:List (String×DataW Unit)) (os:Os) (args:Array Value):World:=
 {World.holding P os ⟨#[],args,[]⟩ with heap:=GU P l (World.holding P os ⟨#[],args,[]⟩).heap}
theorem M0 {a b:Bool} (h1:a=true) (h2:b=true):(a&&b)=true:=by rw [h1,h2];rfl
def yY:List Char:=[99,117,116].map Char.ofNat
theorem aha:(yY== "gc".toList)=false:=by kernel_rfl
theorem Zx:(yY== "spec".toList)=false:=by kernel_rfl
theorem acN:(yY== "cut".toList)=true:=by kernel_rfl
theorem Pe:(yY== "carried".toList)=false:=by kernel_rfl
section
variable {P:Program} {L:List (List Char)} {ns:List Nat}
theorem Jj (h:P.initOrder=String.ofList (ns.map Char.ofNat)):P.initOrder.toList=ns.map Char.ofNat:=by rw [h,String.toList_ofList]
theorem Zy {h s:List Char} (e:wordsSigns P.initOrder.toList=h::s::L) (h1:isSumSigns s=true) (h2:(h== "harness".toList)=true):P.mainIs=some (true,s):=by
 unfold Program.mainIs
 rw [e]
 simp only [h1,h2,Bool.not_true,Bool.false_eq_true,if_false,if_true]
theorem Zz (e:behindMainWord (wordsSigns P.initOrder.toList)=yY::L):P.make=some .cut:=by
 unfold Program.make
 rw [e]
 simp only [aha,Zx,acN,Bool.or_false,Bool.false_eq_true,if_false,Bool.true_or,if_true]
theorem Cy (e:behindMainWord (wordsSigns P.initOrder.toList)=yY::L) (h1:(stripLifts liftWords (yY::L)).1=[]) (h2:((stripLifts liftWords (yY::L)).2.head? ==some "cut".toList)=true)
 (h3:P.doorFits []=true) (h4:P.laysLater=false) (h5:P.bearsReflect=false):P.mayEnter=true:=by
 unfold Program.mayEnter
 rw [e]
 simp only [h1,h2,h3,h4,h5,List.contains_nil,Bool.false_or,Bool.not_false,Bool.true_and,Bool.and_true,Bool.or_true]
theorem WJ (e:behindMainWord (wordsSigns P.initOrder.toList)=yY::L) (h1:(stripLifts liftWords (yY::L)).1=[]):P.liftsFinal=false:=by
 unfold Program.liftsFinal Program.headLifts
 rw [e]
 have h0:((yY::L).head? ==some "carried".toList)=false:=by
  simp only [List.head?_cons]
  have:=Pe
  simpa using this
 simp only [h0,h1,Bool.false_and,Bool.false_or]
 split<;>rfl
theorem ZA {c:OpenClaim} (h:P.make=some .cut) (hc:c.make= .cut):(P.make==some c.make)=true:=by rw [h,hc];rfl
theorem WK {c:OpenClaim} (h:P.liftsFinal=false) (hc:c.lifted=false):(c.lifted==P.liftsFinal)=true:=by rw [h,hc];rfl
end
end Dn
