import Derived.Test.YtbkodohojpchjaaGreatDoorDnC
import Derived.Shelf.Strings.Split
import Derived.Shelf.Strings.SlTrimAscii
import Derived.Shelf.Strings.Runes
import Derived.Lib.IndexBytes
import Derived.Control
import Derived.Test.YtbkodohojpchjaaGreatDoorDnB
import Derived.LaidLaws
import Derived.Deep.DeepLaidRun
import Derived.Handed
import Derived.JoinedOf
import Derived.KernelRfl
/-
  Functions of package strings as table entries, by the shelf's contracts. Conditions: none.
-/
set_option linter.unusedSimpArgs false
set_option linter.unusedVariables false
namespace Dn
open Go
theorem RV (c:UInt8): ∀l:List UInt8,Lib.splitK [c] 0 (Lib.count l [c]) l=bT c l:=by
 intro l
 induction l with
 |nil=>rw [Lib.count_one];rfl
 |cons b l ih=>
  by_cases hb:b=c
  ·subst hb
   have Te:Lib.index (b::l) [b]=0:=by rw [Lib.index];simp [List.isPrefixOf]
   rw [Lib.count_cons_eq,Nat.add_comm,Lib.splitK,Te]
   simp [bT,ih]
  ·rw [Lib.count_cons_ne b c l hb]
   have hp:([c]:List UInt8).isPrefixOf (b::l)=false:=by simp [List.isPrefixOf,Ne.symm hb]
   have Te:Lib.index (b::l) [c]=if Lib.index l [c]== -1 then-1 else Lib.index l [c]+1:=by rw [Lib.index,hp];simp
   simp only [bT,hb,if_false]
   rw [←ih]
   cases hk:Lib.count l [c] with
   |zero=>rfl
   |succ k=>
    have db:Lib.index l [c]≠ -1:=by intro he;rw [Lib.count_miss he] at hk;cases hk
    have Ta:=Lib.index_ge l [c]
    obtain ⟨j,hj⟩: ∃j:Nat,Lib.index l [c]=j:=⟨(Lib.index l [c]).toNat,by omega⟩
    have YK:(Lib.index l [c]== -1)=false:=by simpa using db
    rw [YK,if_neg (by decide)] at Te
    have ajx:(Lib.index (b::l) [c]== -1)=false:=by rw [Te,hj];simp;omega
    rw [Lib.splitK,Lib.splitK,YK,ajx,Te,hj]
    have e1:((j:Int)+1).toNat=j+1:=by omega
    simp [e1]
theorem RW (c:UInt8) (s:ByteArray):(Lib.splitB ⟨#[c]⟩ 0 (Lib.countB s ⟨#[c]⟩) s).map (·.data.toList)=bT c s.data.toList:=by
 rw [Lib.splitB_data]
 exact RV c _
section
variable {P:Program} {ρ:Go.Shelf.Ren} {c:Ctx}
theorem Cf {f:FuncId} {args:Array Value} {w:World} {S:Ending→World→Prop} {R:Value→World→Prop} (he: ∀args w,(callFunc f args).run P w= .ok (.enter f args) w) (hc:Calls P f args w S) (h: ∀e w',S e w'→ ∃v,e= .returned v∧R v w'):
 fP P f args w R:=by
 unfold fP
 rw [he]
 exact hc.mono h
theorem Km {key:Nat→Nat} {φ:Ph} {v:Value} {l:List UInt8} (h:lm key φ [v] (.s l)): ∃b:ByteArray,v= .string b∧b.data.toList=l:=by
 generalize hv:[v]=vs at h
 cases h
 rename_i b
 exact ⟨b,by simpa using hv,rfl⟩
theorem Qs {Z:Nat→Prop} {φ:Ph} {w:World} {k:Nat} {vs:List Value} {a b:List UInt8} (hg:c.eB k=false) (h:eX c Z φ w k vs [.s a,.s b]): ∃x y:ByteArray,vs=[.string x,.string y]∧x.data.toList=a∧y.data.toList=b:=by
 simp only [eX,hg,Bool.false_eq_true,if_false] at h
 obtain ⟨v,u,rfl,⟨_,h1⟩,v2,u2,rfl,⟨_,h2⟩,rfl⟩:=h
 obtain ⟨x,rfl,hx⟩:=Km h1
 obtain ⟨y,rfl,hy⟩:=Km h2
 exact ⟨x,y,rfl,hx,hy⟩
theorem YL {Z:Nat→Prop} {φ:Ph} {w:World} {k:Nat} {kd:IntKind} {vs:List Value} {a:List UInt8} {n:Int} (hg:c.eB k=false) (h:eX c Z φ w k vs [.s a,.i kd n]): ∃x:ByteArray,vs=[.string x,.int kd n]∧x.data.toList=a:=by
 simp only [eX,hg,Bool.false_eq_true,if_false] at h
 obtain ⟨v,u,rfl,⟨_,h1⟩,v2,u2,rfl,⟨_,h2⟩,rfl⟩:=h
 obtain ⟨x,rfl,hx⟩:=Km h1
 generalize hv:[v2]=vs at h2
 cases h2
 simp at hv
 subst hv
 exact ⟨x,rfl,hx⟩
theorem RX (w:World) (q:Nat):Rest w (w.drewN q):=⟨rfl,rfl,rfl,fun _=>rfl⟩
theorem Vt {φ:Ph} {w:World} (hi:zZ φ w) {b:Nat} (hb:w.heap.size≤b) (off:Nat):φ b off=none:=by
 cases hp:φ b off with
 |none=>rfl
 |some u=>
  have:=World.block_lt_of_cell? w _ (hi _ _ _ hp)
  simp at this
  omega
theorem YM (L:Go.Proofs.Lays.n160 P ρ) (afE:(P.info? (ρ.t 116)).map (fun i=>(i.zero,i.size))=some (some (.agg (Array.replicate 256 (.bool false))),256)) (hg:c.eB (c.key (ρ.f 160))=false) {ms:List MV} {r:MV} (h:Fm ms=some r):
 kM P c (ρ.f 160) ms r:=by
 unfold Fm at h
 split at h
 ·rename_i a b
  cases hb:(Nat.ble 1 a.length&&Nat.ble a.length (2^46))&&(Nat.ble 2 b.length&&(Nat.ble b.length 1000&&b.all fun x=>decide (x.toNat<128))) with
  |false=>rw [hb] at h;cases h
  |true=>
   rw [hb] at h
   simp only [cond_true,Option.some.injEq] at h
   subst h
   simp only [Bool.and_eq_true] at hb
   obtain ⟨⟨h1,h2⟩,h3,h4,h5⟩:=hb
   have h1:=Nat.le_of_ble_eq_true h1
   have h2:=Nat.le_of_ble_eq_true h2
   have h3:=Nat.le_of_ble_eq_true h3
   have h4:=Nat.le_of_ble_eq_true h4
   intro φ w Z vs hz ha hi
   obtain ⟨x,y,rfl,rfl,rfl⟩:=Qs hg ha
   refine Cf (Go.Proofs.enters_of L.f160 (by kernel_rfl) rfl) (Go.Proofs.Any.strings_Trim_set L (Go.zero_of_info afE).1 (Go.zero_of_info afE).2 x y w (by rw [Lib.size_eq];exact h3) (by rw [Lib.size_eq];omega) (by rw [Lib.size_eq];omega) (by rw [Lib.size_eq];omega) (Go.Proofs.ascii_of_all h5)) ?_
   rintro e w' ⟨rfl,q,rfl⟩
   refine ⟨_,rfl,φ,?_,?_,?_⟩
   ·have g1:=dz.alloc w (Lib.setCells y.data.toList) (ρ.t 116)
    have g2:=dz.alloc (w.alloc (.cells (Lib.setCells y.data.toList) (ρ.t 116))) (Lib.setCells y.data.toList) (ρ.t 116)
    have g:=g1.trans' g2
    exact ⟨.refl φ,fun b _ hl=>g.BK b hl,fun _ _ _=>rfl,g.size,g.rest.trans (RX _ q)⟩
   ·intro b o v hv
    have g1:=dz.alloc w (Lib.setCells y.data.toList) (ρ.t 116)
    have g2:=dz.alloc (w.alloc (.cells (Lib.setCells y.data.toList) (ρ.t 116))) (Lib.setCells y.data.toList) (ρ.t 116)
    exact (g1.trans' g2).cell (hi b o v hv)
   ·exact ⟨rfl,by have:=lm.s (key:=c.key) (φ:=φ) (⟨(Lib.trimS x.data.toList y.data.toList).toArray⟩:ByteArray);simpa using this⟩
 ·cases h
theorem OD (L:Go.Proofs.Lays.n151 P ρ) (hg:c.eB (c.key (ρ.f 151))=false) {ms:List MV} {r:MV} (h:rh ms=some r):kM P c (ρ.f 151) ms r:=by
 unfold rh at h
 split at h
 ·rename_i a n
  cases hb:decide (0≤n∧n<128) with
  |false=>rw [hb] at h;cases h
  |true=>
   rw [hb] at h
   simp only [cond_true,Option.some.injEq] at h
   subst h
   obtain ⟨h1,h2⟩:=of_decide_eq_true hb
   intro φ w Z vs hz ha hi
   obtain ⟨x,rfl,rfl⟩:=YL hg ha
   refine Cf (Go.Proofs.enters_of L.f151 (by kernel_rfl) rfl) (Go.Proofs.Any.strings_ContainsRune_ascii L x n w h1 h2) ?_
   rintro e w' ⟨rfl,rfl⟩
   exact ⟨_,rfl,φ,.refl _ _ _,hi,rfl,.b _⟩
 ·cases h
open Go.Proofs Go.Shelf Go.RowKit in
theorem RY (L:Go.Proofs.Lays.n146 P ρ) (hi9:(P.info? (ρ.t 9)).map (fun i=>(i.zero,i.size,i.bytes))=some (some (.string ByteArray.empty),1,16)) (s:ByteArray) (b:UInt8) (w:World) (hs:s.size<4294967281):
 Calls P (ρ.f 146) #[.string s,.string ⟨#[b]⟩] w fun e w'=>
  e= .returned (.slice (some ⟨w.heap.size,0,none⟩) (Lib.countB s ⟨#[b]⟩+1) (Lib.countB s ⟨#[b]⟩+1))∧w'=w.alloc (.cells ((Lib.splitB ⟨#[b]⟩ 0 (Lib.countB s ⟨#[b]⟩) s).map Value.string).toArray (ρ.t 9)):=by
 have h1:1≤(⟨#[b]⟩:ByteArray).size:=Nat.le_refl _
 have hle:=Lib.countB_le ⟨#[b]⟩ h1 s.size s (Nat.le_refl _)
 have hlen:=Lib.splitB_all ⟨#[b]⟩ h1 0 _ s rfl
 have hC:Calls P (ρ.f 138) #[.string s,.string ⟨#[b]⟩] w fun e w'=>e= .returned (.int .i64 (Lib.countB s ⟨#[b]⟩))∧w'=w:=by
  refine (Any.strings_Count_one {L with} s b w).mono fun e w' ⟨he,hw⟩=>⟨?_,hw⟩
  rw [he]
  show _=Ending.returned (Value.int .i64 ((Lib.count s.data.toList [b]:Nat):Int))
  rw [Lib.count_one]
  rfl
 have c:=Any.strings_genSplit_core {L with} hi9 s ⟨#[b]⟩ 0 (-1) (Lib.countB s ⟨#[b]⟩+1) w hs h1 (Nat.zero_le _)
  (fun x q hx=>(Any.strings_Index_one {L with} x b _).mono fun e w' ⟨he,hw⟩=>⟨by rw [he];show _=Ending.returned (Value.int .i64 (Lib.index x.data.toList [b]));rw [Lib.index_one],hw⟩)
  hC (by decide) (by decide) (by rw [if_pos (by decide)];omega)
 rw [Nat.add_sub_cancel,hlen] at c
 have e2:Lib.cellsOf (Lib.splitB ⟨#[b]⟩ 0 (Lib.countB s ⟨#[b]⟩) s) (Lib.countB s ⟨#[b]⟩+1)=((Lib.splitB ⟨#[b]⟩ 0 (Lib.countB s ⟨#[b]⟩) s).map Value.string).toArray:=by rw [←hlen];exact Lib.cellsOf_full _
 rw [e2] at c
 clear hC hlen hle e2
 have t3:=L.t3;have t9:=L.t9;have t31:=L.t31
 have a3:=L.a3;have a9:=L.a9;have a31:=L.a31
 have z3:=L.z3;have v3:=L.v3;have z9:=L.z9;have v9:=L.v9;have z31:=L.z31;have v31:=L.v31
 have anu: ∀args w,(callFunc (ρ.f 221) args).run P w= .ok (.enter (ρ.f 221) args) w:=enters_of L.f221 (by kernel_rfl) rfl
 go_enter L.f146,Body.n146_ntmps ρ
 go_wp2_with (go_at_fn (ρ.f 221);refine c.mono ?_;rintro e w' ⟨rfl,hw⟩;rw [hw])
 go_ret
 exact ⟨rfl,rfl⟩
theorem Fo {key:Nat→Nat} {φ:Ph}: ∀l:List ByteArray,a8 key φ 1 (l.map Value.string) (l.map fun b=>MV.s b.data.toList)
 |[]=>rfl
 |b::l=>⟨[.string b],_,rfl,rfl,.s b,Fo l⟩
theorem Vu {I:TI} (L:Go.Proofs.Lays.n146 P ρ) (hi9:(P.info? (ρ.t 9)).map (fun i=>(i.zero,i.size,i.bytes))=some (some (.string ByteArray.empty),1,16)) (hg:c.eB (c.key (ρ.f 146))=false)
 (jr:c.r7 (c.key (ρ.f 146))=ρ.t 9) (hI:c.tv (ρ.t 9)=some I) (Nn:I.size=1) {ms:List MV} {r:MV} (h:xx ms=some r):kM P c (ρ.f 146) ms r:=by
 unfold xx at h
 split at h
 ·rename_i a b
  cases hb:Nat.ble a.length 4294967280 with
  |false=>rw [hb] at h;cases h
  |true=>
   rw [hb] at h
   simp only [cond_true,Option.some.injEq] at h
   subst h
   have hb:=Nat.le_of_ble_eq_true hb
   intro φ w Z vs hz ha hi
   obtain ⟨x,y,rfl,rfl,hy⟩:=Qs hg ha
   have hy':y=⟨#[b]⟩:=by
    cases y with
    |mk d=>congr 1;apply Array.toList_inj.1;exact hy
   subst hy'
   have hs:x.size<4294967281:=by rw [Lib.size_eq];omega
   refine Cf (Go.Proofs.enters_of L.f146 (by kernel_rfl) rfl) (RY L hi9 x b w hs) ?_
   rintro e w' ⟨rfl,rfl⟩
   have h1:1≤(⟨#[b]⟩:ByteArray).size:=Nat.le_refl _
   have hle:=Lib.countB_le ⟨#[b]⟩ h1 x.size x (Nat.le_refl _)
   have hlen:=Lib.splitB_all ⟨#[b]⟩ h1 0 _ x rfl
   have iV:=RW b x
   have g1:=dz.alloc w ((Lib.splitB ⟨#[b]⟩ 0 (Lib.countB x ⟨#[b]⟩) x).map Value.string).toArray (ρ.t 9)
   obtain ⟨r8,hc⟩:=bO hI
   refine ⟨_,rfl,φ,g1.trans (Z:=bL.plain Z) hz φ,fun b' o v hv=>g1.cell (hi b' o v hv),?_⟩
   show dg _ _ _ _ _ ⟨c.r7 (c.key (ρ.f 146)),false,_⟩
   rw [jr]
   generalize hpc:Lib.splitB ⟨#[b]⟩ 0 (Lib.countB x ⟨#[b]⟩) x=pcs at *
   rw [←iV,List.map_map]
   refine ⟨I,pcs.map Value.string,r8,hc,?_,by rw [Nn];exact Fo pcs,?_⟩
   ·rw [Nn]
    refine ⟨by simp,.inr ⟨w.heap.size,Lib.countB x ⟨#[b]⟩+1,_,by simp [hlen],Nat.zero_le _,km w _,by simp [hlen],by unfold Go.maxLen;rw [Lib.size_eq] at hle;omega,by simp [hlen],?_⟩⟩
    simp [List.take_of_length_le]
   ·intro bc jB
    simp [Value.ownBlock] at jB
    subst jB
    exact ⟨hz _ (Nat.le_refl _),fun off u hu=>(by have hu:φ w.heap.size off=some u:=hu;rw [Vt hi (Nat.le_refl _)] at hu;cases hu),fun hc=>False.elim hc⟩
 ·cases h
end
end Dn
/-
  slices.IndexFunc and slices.DeleteFunc of the library, walked, with whatever function. Conditions: none.
-/
set_option linter.unusedSimpArgs false
set_option linter.unusedVariables false
namespace Dn
open Go
section
variable {P:Program} {Q:Exit→Act→World→Prop} {ops:Array Oper} {o:Oper} {a:Act} {w w':World} {n:Nat} {σ:Nat→Value}
theorem tm2 (v0 v1:Value) (k:Nat):Tm {tmps:= #[v0,v1]++Array.replicate k undef,defers:=[]} (k+2) (xr (xr (fun _=>undef) 0 v0) 1 v1):=by
 refine ⟨rfl,by simp [Nat.add_comm],fun q=> ?_⟩
 by_cases h0:q=0
 ·subst h0;show (#[v0,v1]++Array.replicate k undef).getD 0 undef=v0;simp [Array.getElem?_append]
 by_cases h1:q=1
 ·subst h1;show (#[v0,v1]++Array.replicate k undef).getD 1 undef=v1;simp [Array.getElem?_append]
 have e: ∀{x y:Nat},x≠y→Nat.beq x y=false:=fun {x y} h=>by
  cases hq:Nat.beq x y with
  |false=>rfl
  |true=>exact absurd (Nat.eq_of_beq_eq_true hq) h
 simp only [xr,e h0,e h1,cond_false]
 have h3:2≤q:=by omega
 simp [Array.getElem?_append,Array.getElem?_replicate,show¬q<2 by omega]
 by_cases hk:q-2<k<;>simp [hk]
theorem Tm.call {i d:Nat} {op:Op} {rest:List Nat} {f:Nat} {args:Array Value} {Rp:Value→World→Prop} (aD:Tm a n σ) (hi:ops[i]? =some o) (ho:aS o d op) (hd:d<n)
 (bS:(execOp (ev σ) o).run P w=(callFunc f args).run P w) (hc:fP P f args w Rp) (h: ∀v w' a',Rp v w'→Tm a' n (xr σ d v)→wpOps P ops Q rest a' w'):wpOps P ops Q (i::rest) a w:=by
 rw [wpOps_cons]
 unfold wpOp
 simp only [hi,Region.wanted,ho.guard,if_true]
 left
 refine ua (by rw [aD.eval];exact bS) hc ?_
 intro v w' hr
 rw [ho.dst]
 exact h v w' _ hr (aD.put hd v)
theorem Kn {d:Nat} {t el:TypeId} {x y:Operand} {e:Operand→Value} {g n c j size:Nat} {i:TypeInfo} (ho:aS o d (.indexAddr t x y)) (hu:P.underlying t=some (.slice el)) (hi:P.info? el=some i) (hs:i.size=size)
 (hx:e x= .slice (some ⟨g,0,none⟩) n c) (hy:e y= .int .i64 ((j:Nat):Int)) (hj:j<n) (w:World):(execOp e o).run P w= .ok (.value (.pointer (some ⟨g,j *size,none⟩))) w:=by
 have h2: ¬n≤j:=by omega
 simp [execOp,ho.op,hx,hy,Instr.indexAt,asIntOf,run_underlying hu,h2,Go.sizeOf,typeInfo,hi,hs,Addr.add_mid]
theorem D7 {c:Ctx} {d:Nat} {t:TypeId} {I:TI} {x:Operand} {e:Operand→Value} {g off:Nat} {vs:List Value} (ho:aS o d (.load t x)) (hr:na c.ti P t I) (hc:I.cO=[]) (ez:I.st=true) (hl:vs.length=I.size)
 (hx:e x= .pointer (some ⟨g,off,none⟩)) (hm:w.rangeAt g off vs):(execOp e o).run P w= .ok (.value (.agg vs.toArray)) w:=by
 rcases nq (P:=P) hr hc hl hm with ⟨_,h⟩|⟨h,_⟩
 ·have:=h w hm
  simp [execOp,ho.op,hx,this]
 ·rw [ez] at h;cases h
theorem YN {d:Nat} {t:TypeId} {e:Operand→Value} {i:TypeInfo} {z:Value} (ho:aS o d (.alloc t)) (hi:P.info? t=some i) (hz:i.zero=some z) (w:World):
 (execOp e o).run P w= .ok (.value (.pointer (some ⟨w.heap.size,0,none⟩))) (w.alloc (.cells z.cells t)):=by
 simp [execOp,ho.op,Instr.alloc,zeroValue,typeInfo,hi,hz,newVar,newRow,newObj,Sem.run]
theorem Qt {c:Ctx} {t:TypeId} {I:TI} {x y:Operand} {e:Operand→Value} {g off:Nat} {v:Value} {arr:Array Value} {T:TypeId} (ho:C3 o (.store t x y)) (hr:na c.ti P t I) (hc:I.cO=[]) (hx:e x= .pointer (some ⟨g,off,none⟩)) (hy:e y=v)
 (hs:v.cells.toList.length=I.size) (iQ: ∀u∈v.cells.toList,u.oneCell'=true) (c8:w.heap[g]? =some (.cells arr T (0,0))) (xh:off+I.size≤arr.size):
 (execOp e o).run P w= .ok .skip (w.setRow g (arr.toList.take off++v.cells.toList++arr.toList.drop (off+I.size)).toArray):=by
 have:=mz (P:=P) (w:=w) hr hc hs iQ c8 xh
 simp [execOp,ho.op,hx,hy,this]
theorem Tm.aaW {i:Nat} {op:Op} {rest:List Nat} (aD:Tm a n σ) (hi:ops[i]? =some o) (ho:C3 o op) (bS:(execOp (ev σ) o).run P w= .ok .skip w')
 (h:wpOps P ops Q rest a w'):wpOps P ops Q (i::rest) a w:=by
 rw [wpOps_cons]
 unfold wpOp
 simp only [hi,Region.wanted,ho.guard,if_true]
 left
 unfold Oper.wp
 rw [aD.eval,bS]
 simp only [Oper.upon]
 rw [ho.dst]
 exact h
theorem Mg {d:Nat} {t t':TypeId} {x y:Operand} {e:Operand→Value} {p q:Int} (ho:aS o d (.binOp .lss t x y t')) (hx:e x= .int .i64 p) (hy:e y= .int .i64 q) (w:World):
 (execOp e o).run P w= .ok (.value (.bool (decide (p<q)))) w:=xt ho hx hy (fun w=>by simp [Go.binOp,Op.intCmp]) w
theorem Qu {d:Nat} {x y:Operand} {t:Array TypeId} {e:Operand→Value} {g:Nat} {lb:Array Value} {v:Value} (ho:aS o d (.call {callee:= .value x,args:= #[y],argTypes:=t})) (hx:e x= .func (.func g) #[] lb) (hy:e y=v) (w:World):
 (execOp e o).run P w=(callFunc g (#[v]++lb)).run P w:=by
 simp [execOp,ho.op,resolve,invoke,hx,hy,Deferred.ofValue]
theorem YO {d:Nat} {x y:Operand} {t:Array TypeId} {e:Operand→Value} {g:Nat} {v u:Value} (ho:aS o d (.call {callee:= .value (.func g),args:= #[x,y],argTypes:=t})) (he:e (.func g)= .func (.func g) #[] #[]) (hx:e x=v) (hy:e y=u) (w:World):
 (execOp e o).run P w=(callFunc g #[v,u]).run P w:=by
 simp [execOp,ho.op,resolve,invoke,he,hx,hy,Deferred.ofValue]
end
def Ko (r:Nat→Nat) (o:Nat→Oper):Code:=
 .seq (.region (r 0) #[o 0] false) (.seq (.seq (.region (r 1) #[o 1,o 2,o 3] false) (.block 0 (.loop (.seq (.region (r 2) #[o 4] false) (.seq (.cond (.tmp 9) .skip (.exit 0)) (.seq (.block 1 (.seq (.region (r 3) #[o 5,o 6] false) (.seq (.region (r 4) #[o 7,o 8,o 9,o 10,o 11,o 12] false) (.cond (.tmp 16) (.seq (.region (r 5) #[o 13,o 14] false) .ret) .skip)))) (.region (r 6) #[o 15,o 16] false))))))) (.seq (.region (r 7) #[o 17] false) .ret))
structure acy (t el ti:Nat) (o:Nat→Oper):Prop where
 h0:aS (o 0) 4 (.assign (.const (.int .i64 0)))
 h1:aS (o 1) 6 (.move (.tmp 0))
 h2:aS (o 2) 7 (.call {callee:= .builtin .len,args:= #[.tmp 6],argTypes:= #[t]})
 h3:aS (o 3) 8 (.move (.const (.int .i64 0)))
 h4:aS (o 4) 9 (.binOp .lss ti (.tmp 8) (.tmp 7) ti)
 h5:aS (o 5) 10 (.move (.tmp 8))
 h6:aS (o 6) 5 (.assign (.tmp 10))
 h7:aS (o 7) 11 (.move (.tmp 1))
 h8:aS (o 8) 12 (.move (.tmp 0))
 h9:aS (o 9) 13 (.move (.tmp 5))
 P9:aS (o 10) 14 (.indexAddr t (.tmp 12) (.tmp 13))
 Ot:aS (o 11) 15 (.load el (.tmp 14))
 Ou:aS (o 12) 16 (.call {callee:= .value (.tmp 11),args:= #[.tmp 15],argTypes:= #[el]})
 Ov:aS (o 13) 17 (.move (.tmp 5))
 Ow:aS (o 14) 4 (.assign (.tmp 17))
 Ox:aS (o 15) 18 (.binOp .add ti (.tmp 8) (.const (.int .i64 1)) ti)
 Oy:aS (o 16) 8 (.move (.tmp 18))
 Vd:aS (o 17) 4 (.assign (.const (.int .i64 (-1))))
structure Vv (P:Program) (f t ti el:Nat) (fn:Func) (r:Nat→Nat) (o:Nat→Oper):Prop where
 pos:P.funcs[f]? =some fn
 name:(fn.name== "runtime.NumGoroutine")=false
 tmps:fn.ntmps=19
 res:fn.results= #[.tmp 4]
 body:fn.body=some (Ko r o)
 ops:acy t el ti o
 uS:P.underlying t=some (.slice el)
theorem Kp {P:Program} {fn:Func} {n:Nat} {a:Act} {w:World} {σ:Nat→Value} {R:Ending→World→Prop} {v:Value} (hr:fn.results= #[.tmp 4]) (aD:Tm a n σ) (h6:σ 4=v) (h:R (.returned v) w):bodyPost P fn R .ret a w:=by
 refine ⟨aD.defers,v,?_,h⟩
 have h2:a.tmps[4]?.getD undef=v:=by have:=aD.get 4;rw [h6] at this;simpa using this
 simp [results,hr,h2]
theorem Mh {key:Nat→Nat} {φ:Ph} {size:Nat} {xs:List MV} {cells:List Value} (h:a8 key φ size cells xs) {k:Nat} (hk:k<xs.length):
 ((cells.drop (k *size)).take size).length=size∧lm key φ ((cells.drop (k *size)).take size) xs[k]:=by
 obtain ⟨p1,v1,p2,he,BM,uR,eW⟩:=h.at (List.getElem?_eq_getElem hk)
 have:(cells.drop (k *size)).take size=v1:=by
  rw [he,List.append_assoc,←BM,List.drop_left,←uR,List.take_left]
 rw [this]
 exact ⟨uR,eW⟩
theorem Fp {key:Nat→Nat} {φ:Ph} {vs:List Value} {x:MV} (h:lm key φ vs x) {ms:List MV} (hx:x= .agg ms):fj key φ (.agg vs.toArray) x:=by
 subst hx
 cases h with
 |agg _ _ h=>exact ⟨vs.toArray,rfl,by simpa using h⟩
section
variable {P:Program} {c:Ctx} {f t ti el:Nat} {fn:Func} {r:Nat→Nat} {o:Nat→Oper} {E:TI} {n cp g0 g:Nat} {ad:Option Addr} {ob:Option Nat} {w:World} {lb:Array Value} {S:Type} {Inv:S→(Nat→Prop)→Ph→World→Prop} {step:S→MV→Option (Bool×S)}
theorem Vw (hf:Vv P f t ti el fn r o) (hp:vp P c g lb Inv step) (hT:kK P c.ti) (hE:c.tv el=some E) (ez:E.st=true) {xs:List MV} {cells:List Value} {dm:Array Value} {T:TypeId} {φ0:Ph} {Z0:Nat→Prop} {s0 s':S} {ys:List MV}
 (Fb: ∀x∈xs,∃ms,x= .agg ms) (Lv:0<xs.length→ad=some ⟨g0,0,none⟩∧ob=some g0∧w.heap[g0]? =some (.cells dm T (0,0))∧dm.toList.take (xs.length *E.size)=cells) (Tb: ∀b,ob=some b→ ¬Z0 b∧b<w.heap.size∧ ∀off,φ0 b off=none)
 (iP:a8 c.key φ0 E.size cells xs) (afF:xs.length<2^63) (hinv:Inv s0 Z0 φ0 w) (kG: ∀b,w.heap.size≤b→Z0 b) (jo:zZ φ0 w) (hd:lZ step s0 xs=some (ys,s')):
 Calls P f #[.slice ad xs.length cp,.func (.func g) #[] lb] w fun e W=> ∃Z φ,(∀b,ob=some b→W.heap[b]? =w.heap[b]?)∧
  ((e= .returned (.int .i64 (-1))∧ys=xs∧y9 c ob Inv Z0 φ0 w s' Z φ W)∨
   ∃k,∃hk:k<xs.length,∃sk,e= .returned (.int .i64 (k:Int))∧lZ step s0 (xs.take (k+1))=some (xs.take k,sk)∧y9 c ob Inv Z0 φ0 w sk Z φ W):=by
 obtain ⟨nk,n9⟩:=bO hE
 obtain ⟨ie,z,nU,tz,Rc,YB,K4⟩:=od (hT _ E nk) n9
 refine calls_of_wp hf.pos hf.body ?_
 rw [hf.tmps]
 generalize Mi:(fun (e:Ending) (W:World)=> ∃Z φ,(∀b,ob=some b→W.heap[b]? =w.heap[b]?)∧
  ((e= .returned (.int .i64 (-1))∧ys=xs∧y9 c ob Inv Z0 φ0 w s' Z φ W)∨
   ∃k,∃hk:k<xs.length,∃sk,e= .returned (.int .i64 (k:Int))∧lZ step s0 (xs.take (k+1))=some (xs.take k,sk)∧y9 c ob Inv Z0 φ0 w sk Z φ W))=acz
 have key: ∀a:Act,Tm a 19 (xr (xr (fun _=>undef) 0 (.slice ad xs.length cp)) 1 (.func (.func g) #[] lb))→(Ko r o).wp P (bodyPost P fn acz) a w:=by
  intro a aD
  unfold Ko
  refine wp_seq (wp_region ?_)
  rw [show List.range (#[o 0]:Array Oper).size=[0] from rfl]
  refine aD.step (v:= .int .i64 0) rfl hf.ops.h0 (by decide) (cS hf.ops.h0 _) (fun a aD=> ?_)
  refine wp_seq (wp_seq (wp_region ?_))
  rw [show List.range (#[o 1,o 2,o 3]:Array Oper).size=[0,1,2] from rfl]
  refine aD.step (v:= .slice ad xs.length cp) rfl hf.ops.h1 (by decide) (aQ hf.ops.h1 _) (fun a aD=> ?_)
  refine aD.step (v:= .int .i64 ((xs.length:Nat):Int)) rfl hf.ops.h2 (by decide) (mB hf.ops.h2 hf.uS rfl _) (fun a aD=> ?_)
  refine aD.step (v:= .int .i64 0) rfl hf.ops.h3 (by decide) (aQ hf.ops.h3 _) (fun a aD=> ?_)
  refine wp_block (wp_loop (fun a W=> ∃σ,Tm a 19 σ∧σ 0= .slice ad xs.length cp∧σ 1= .func (.func g) #[] lb∧σ 7= .int .i64 ((xs.length:Nat):Int)∧ ∃k:Nat,k≤xs.length∧σ 8= .int .i64 (k:Int)∧
   (∀b,ob=some b→W.heap[b]? =w.heap[b]?)∧ ∃s Z φ,lZ step s0 (xs.take k)=some (xs.take k,s)∧y9 c ob Inv Z0 φ0 w s Z φ W)
   (fun a W=>match a.tmps.getD 8 undef with| .int _ k=>xs.length-k.toNat|_=>0) ?_ ?_)
  ·refine ⟨_,aD,rfl,rfl,rfl,0,Nat.zero_le _,rfl,fun _ _=>rfl,s0,Z0,φ0,rfl,⟨hinv,kG,fun b hb=> .inl hb,jo,.refl _ _ _,fun b off hb=>(Tb b hb).2.2 off⟩⟩
  ·clear aD
   rintro a W ⟨σ,aD,h0,h1,h7,k,hk,h8,AW,s,Z,φ,hdk,hW⟩
   refine wp_seq (wp_region ?_)
   rw [show List.range (#[o 4]:Array Oper).size=[0] from rfl]
   have hm8:(match a.tmps.getD 8 undef with| .int _ k=>xs.length-k.toNat|_=>0)=xs.length-k:=by rw [aD.get 8,h8];simp
   rw [hm8]
   clear hm8
   refine aD.step (v:= .bool (decide ((k:Int)<(xs.length:Int)))) rfl hf.ops.h4 (by decide) (Mg hf.ops.h4 h8 h7 _) (fun a aD=> ?_)
   refine wp_seq ?_
   by_cases dn:k<xs.length
   rotate_left
   ·refine aD.cond (b:=false) (by show Value.bool (decide ((k:Int)<(xs.length:Int)))=_;rw [decide_eq_false (by omega)]) ?_
    simp only [Bool.false_eq_true,if_false]
    refine wp_exit ?_
    have YP:k=xs.length:=by omega
    subst YP
    rw [List.take_length] at hdk
    rw [hd] at hdk
    simp only [Option.some.injEq,Prod.mk.injEq] at hdk
    obtain ⟨rfl,rfl⟩:=hdk
    show Exit.then _ _ _ _ _
    refine wp_seq (wp_region ?_)
    rw [show List.range (#[o 17]:Array Oper).size=[0] from rfl]
    refine aD.step (v:= .int .i64 (-1)) rfl hf.ops.Vd (by decide) (cS hf.ops.Vd _) (fun a aD=> ?_)
    refine wp_ret ?_
    refine Kp hf.res aD (v:= .int .i64 (-1)) rfl ?_
    rw [←Mi]
    exact ⟨Z,φ,AW,.inl ⟨rfl,rfl,hW⟩⟩
   ·refine aD.cond (b:=true) (by show Value.bool (decide ((k:Int)<(xs.length:Int)))=_;rw [decide_eq_true (by omega)]) ?_
    simp only [if_true]
    refine wp_skip ?_
    obtain ⟨acA,Rt,c8,bq⟩:=Lv (by omega)
    have h0':=h0
    rw [acA] at h0'
    obtain ⟨yk,sk,b,Yt,e1,e2,e3⟩:=Qf hd dn
    rw [hdk] at e1
    simp only [Option.some.injEq,Prod.mk.injEq] at e1
    obtain ⟨rfl,rfl⟩:=e1
    have Vx:=iP.mono hW.tr.ph
    obtain ⟨hl,eW⟩:=Mh Vx dn
    have acB:W.rangeAt g0 (k *E.size) ((cells.drop (k *E.size)).take E.size):=by
     intro j v hj
     have GY:j<E.size:=by have:=(List.getElem?_eq_some_iff.1 hj).1;omega
     have hW0:W.heap[g0]? =some (.cells dm T (0,0)):=(AW g0 Rt).trans c8
     rw [cell_of hW0,←Array.getElem?_toList]
     rw [List.getElem?_take_of_lt GY,List.getElem?_drop,←bq,List.getElem?_take] at hj
     split at hj
     ·exact hj
     ·cases hj
    obtain ⟨ms,LD⟩:=Fb _ (List.getElem_mem dn)
    have Oo:fj c.key φ (.agg ((cells.drop (k *E.size)).take E.size).toArray) xs[k]:=Fp eW LD
    refine wp_seq (wp_block ?_)
    refine wp_seq (wp_region ?_)
    rw [show List.range (#[o 5,o 6]:Array Oper).size=[0,1] from rfl]
    refine aD.step (v:= .int .i64 (k:Int)) rfl hf.ops.h5 (by decide) ((aQ hf.ops.h5 _).trans (by show Result.ok (Next.value (σ 8)) W=_;rw [h8])) (fun a aD=> ?_)
    refine aD.step (v:= .int .i64 (k:Int)) rfl hf.ops.h6 (by decide) (cS hf.ops.h6 _) (fun a aD=> ?_)
    refine wp_seq (wp_region ?_)
    rw [show List.range (#[o 7,o 8,o 9,o 10,o 11,o 12]:Array Oper).size=[0,1,2,3,4,5] from rfl]
    refine aD.step (v:= .func (.func g) #[] lb) rfl hf.ops.h7 (by decide) ((aQ hf.ops.h7 _).trans (by show Result.ok (Next.value (σ 1)) W=_;rw [h1])) (fun a aD=> ?_)
    refine aD.step (v:= .slice (some ⟨g0,0,none⟩) xs.length cp) rfl hf.ops.h8 (by decide) ((aQ hf.ops.h8 _).trans (by show Result.ok (Next.value (σ 0)) W=_;rw [h0'])) (fun a aD=> ?_)
    refine aD.step (v:= .int .i64 (k:Int)) rfl hf.ops.h9 (by decide) (aQ hf.ops.h9 _) (fun a aD=> ?_)
    refine aD.step rfl hf.ops.P9 (by decide) (Kn hf.ops.P9 hf.uS nU tz rfl rfl dn _) (fun a aD=> ?_)
    refine aD.step rfl hf.ops.Ot (by decide) (D7 hf.ops.Ot (hT _ E nk) n9 ez hl rfl acB) (fun a aD=> ?_)
    refine aD.call rfl hf.ops.Ou (by decide) (Qu hf.ops.Ou rfl rfl _) (hp.call hW.inv hW.new hW.nT Oo e2) ?_
    rintro v W2 a ⟨rfl,φ',t1,t2,t3⟩ aD
    have Xm: ∀b,ob=some b→ ¬Z b:=fun b hb hz=>by
     have:=Tb b hb
     rcases hW.sub _ hz with h|h
     ·exact this.1 h
     ·omega
    have PU: ∀b,ob=some b→W2.heap[b]? =w.heap[b]? :=fun b hb=>(t1.heap b (Xm b hb) (Nat.lt_of_lt_of_le (Tb b hb).2.1 hW.tr.size)).trans (AW b hb)
    have RS:y9 c ob Inv Z0 φ0 w Yt Z φ' W2:=⟨t3,fun b hb=>hW.new b (Nat.le_trans t1.size hb),hW.sub,t2,hW.tr.trans (t1.sup fun b hb=> .inl (hW.sub b hb)),fun b off hb=>by rw [t1.free b off (Xm b hb)];exact hW.free b off hb⟩
    cases b with
    |true=>
     refine aD.cond (b:=true) rfl ?_
     simp only [if_true]
     refine wp_seq (wp_region ?_)
     rw [show List.range (#[o 13,o 14]:Array Oper).size=[0,1] from rfl]
     refine aD.step (v:= .int .i64 (k:Int)) rfl hf.ops.Ov (by decide) (aQ hf.ops.Ov _) (fun a aD=> ?_)
     refine aD.step (v:= .int .i64 (k:Int)) rfl hf.ops.Ow (by decide) (cS hf.ops.Ow _) (fun a aD=> ?_)
     refine wp_ret ?_
     refine Kp hf.res aD (v:= .int .i64 (k:Int)) rfl ?_
     rw [←Mi]
     exact ⟨Z,φ',PU,.inr ⟨k,dn,Yt,rfl,e3,RS⟩⟩
    |false=>
     refine aD.cond (b:=false) rfl ?_
     simp only [Bool.false_eq_true,if_false]
     refine wp_skip ?_
     show Code.wp P (Code.region (r 6) #[o 15,o 16] false) _ a W2
     refine wp_region ?_
     rw [show List.range (#[o 15,o 16]:Array Oper).size=[0,1] from rfl]
     refine aD.step (v:= .int .i64 ((k+1:Nat):Int)) rfl hf.ops.Ox (by decide) (jT (q:=1) hf.ops.Ox h8 rfl (by omega) _) (fun a aD=> ?_)
     refine aD.step (v:= .int .i64 ((k+1:Nat):Int)) rfl hf.ops.Oy (by decide) (aQ hf.ops.Oy _) (fun a aD=> ?_)
     refine ⟨⟨_,aD,h0,h1,h7,k+1,by omega,rfl,PU,Yt,Z,φ',?_,RS⟩,?_⟩
     ·rw [e3]
      have e4:xs.take (k+1)=xs.take k++[xs[k]]:=by rw [List.take_add_one,List.getElem?_eq_getElem dn];rfl
      rw [e4];rfl
     ·have:a.tmps.getD 8 undef= .int .i64 ((k+1:Nat):Int):=by rw [aD.get 8];rfl
      rw [this]
      simp
      omega
 exact key _ (tm2 _ _ 17)
end
end Dn
/-
  slices.DeleteFunc of the library, walked, with whatever function. Conditions: none.
-/
set_option linter.unusedSimpArgs false
set_option linter.unusedVariables false
namespace Dn
open Go
theorem xy {P:Program} {f:Nat} {fn:Func} {b:Code} {args:Array Value} {w:World} {R:Value→World→Prop} (eD:P.funcs[f]? =some fn) (AQ:(fn.name== "runtime.NumGoroutine")=false) (pi:fn.body=some b)
 (h:Calls P f args w fun e W=> ∃v,e= .returned v∧R v W):fP P f args w R:=by
 have bS:(callFunc f args).run P w= .ok (.enter f args) w:=by
  have Et: ¬fn.name= "runtime.NumGoroutine" :=by simpa using AQ
  simp [callFunc,eD,Et,pi]
 unfold fP
 rw [bS]
 exact h
def Fq (r:Nat→Nat) (o:Nat→Oper):Code:=
 .seq (.region (r 0) #[o 0] false) (.seq (.region (r 1) #[o 1,o 2,o 3,o 4] false) (.seq (.seq (.region (r 2) #[o 5,o 6] false) (.cond (.tmp 12) (.seq (.region (r 3) #[o 7,o 8] false) .ret) .skip)) (.seq (.seq (.region (r 4) #[o 9,o 10,o 11] false) (.block 0 (.loop (.seq (.seq (.region (r 5) #[o 12,o 13,o 14,o 15] false) (.cond (.tmp 19) .skip (.exit 0))) (.seq (.block 1 (.seq (.region (r 6) #[o 16,o 17,o 18,o 19,o 20,o 21] false) (.seq (.region (r 7) #[o 22,o 23,o 24,o 25] false) (.cond (.tmp 29) (.seq (.region (r 8) #[o 26,o 27,o 28,o 29,o 30] false) (.region (r 9) #[o 31,o 32,o 33] false)) .skip)))) (.region (r 10) #[o 34,o 35,o 36] false)))))) (.seq (.region (r 11) #[o 37,o 38,o 39,o 40] false) (.seq (.region (r 12) #[o 41,o 42,o 43,o 44] false) .ret)))))
structure YQ (t el ti tb fu fi:Nat) (o:Nat→Oper):Prop where
 h0:aS (o 0) 4 (.assign (.const (.slice none 0 0)))
 h1:aS (o 1) 8 (.move (.tmp 0))
 h2:aS (o 2) 9 (.move (.tmp 1))
 h3:aS (o 3) 10 (.call {callee:= .value (.func fi),args:= #[.tmp 8,.tmp 9],argTypes:= #[t,fu]})
 h4:aS (o 4) 5 (.assign (.tmp 10))
 h5:aS (o 5) 11 (.move (.tmp 5))
 h6:aS (o 6) 12 (.binOp .eql ti (.tmp 11) (.const (.int .i64 (-1))) ti)
 h7:aS (o 7) 13 (.move (.tmp 0))
 h8:aS (o 8) 4 (.assign (.tmp 13))
 h9:aS (o 9) 14 (.move (.tmp 5))
 P9:aS (o 10) 15 (.binOp .add ti (.tmp 14) (.const (.int .i64 1)) ti)
 Ot:aS (o 11) 6 (.assign (.tmp 15))
 Ou:aS (o 12) 16 (.move (.tmp 6))
 Ov:aS (o 13) 17 (.move (.tmp 0))
 Ow:aS (o 14) 18 (.call {callee:= .builtin .len,args:= #[.tmp 17],argTypes:= #[t]})
 Ox:aS (o 15) 19 (.binOp .lss ti (.tmp 16) (.tmp 18) ti)
 Oy:aS (o 16) 22 (.move (.tmp 0))
 Vd:aS (o 17) 23 (.move (.tmp 6))
 h18:aS (o 18) 24 (.indexAddr t (.tmp 22) (.tmp 23))
 h19:aS (o 19) 25 (.load el (.tmp 24))
 h20:aS (o 20) 7 (.alloc el)
 Xo:C3 (o 21) (.store el (.tmp 7) (.tmp 25))
 Xp:aS (o 22) 26 (.move (.tmp 1))
 Xq:aS (o 23) 27 (.load el (.tmp 7))
 Xr:aS (o 24) 28 (.call {callee:= .value (.tmp 26),args:= #[.tmp 27],argTypes:= #[el]})
 Xs:aS (o 25) 29 (.unOp .not tb (.tmp 28))
 Xt:aS (o 26) 30 (.move (.tmp 0))
 h27:aS (o 27) 31 (.move (.tmp 5))
 h28:aS (o 28) 32 (.load el (.tmp 7))
 h29:aS (o 29) 33 (.indexAddr t (.tmp 30) (.tmp 31))
 Ve:C3 (o 30) (.store el (.tmp 33) (.tmp 32))
 h31:aS (o 31) 34 (.move (.tmp 5))
 h32:aS (o 32) 35 (.binOp .add ti (.tmp 34) (.const (.int .i64 1)) ti)
 h33:aS (o 33) 5 (.assign (.tmp 35))
 h34:aS (o 34) 20 (.move (.tmp 6))
 h35:aS (o 35) 21 (.binOp .add ti (.tmp 20) (.const (.int .i64 1)) ti)
 h36:aS (o 36) 6 (.assign (.tmp 21))
 h37:aS (o 37) 36 (.move (.tmp 0))
 h38:aS (o 38) 37 (.move (.tmp 5))
 h39:aS (o 39) 38 (.slice t (.tmp 36) (some (.tmp 37)) none none)
 h40:C3 (o 40) (.call {callee:= .builtin .clear,args:= #[.tmp 38],argTypes:= #[t]})
 h41:aS (o 41) 39 (.move (.tmp 0))
 h42:aS (o 42) 40 (.move (.tmp 5))
 h43:aS (o 43) 41 (.slice t (.tmp 39) none (some (.tmp 40)) none)
 h44:aS (o 44) 4 (.assign (.tmp 41))
structure Vy (P:Program) (f t ti tb fu fi el:Nat) (fn:Func) (r:Nat→Nat) (o:Nat→Oper):Prop where
 pos:P.funcs[f]? =some fn
 name:(fn.name== "runtime.NumGoroutine")=false
 tmps:fn.ntmps=42
 res:fn.results= #[.tmp 4]
 body:fn.body=some (Fq r o)
 ops:YQ t el ti tb fu fi o
 uS:P.underlying t=some (.slice el)
section
variable {P:Program} {c:Ctx} {f fi t ti tb fu el:Nat} {fn fni:Func} {r ri:Nat→Nat} {o oi:Nat→Oper} {E:TI} {cp g0 g:Nat} {ad:Option Addr} {ob:Option Nat} {w W W2:World} {lb:Array Value} {S:Type} {Inv:S→(Nat→Prop)→Ph→World→Prop} {step:S→MV→Option (Bool×S)} {Z0 Z:Nat→Prop} {φ0 φ:Ph} {s:S}
theorem y9.move (hp:vp P c g lb Inv step) (hW:y9 c ob Inv Z0 φ0 w s Z φ W) (q9:W.heap.size≤W2.heap.size) (tW: ∀b,b<W.heap.size→ob≠some b→W2.heap[b]? =W.heap[b]?) (zC:Rest W W2) (Xm: ∀b,ob=some b→ ¬Z b):
 y9 c ob Inv Z0 φ0 w s (fun b=>(Z b∧b<W.heap.size)∨W2.heap.size≤b) φ W2:=by
 have hws:=hW.tr.size
 refine ⟨hp.mono (hp.frame hW.inv q9 fun b hz hb=>tW b hb (fun e=>Xm b e hz)) fun b hb=> .inl hb,fun b hb=> .inr hb,fun b hb=> ?_,fun b off v hv=> ?_,?_,hW.free⟩
 ·rcases hb with hb|hb
  ·exact hW.sub b hb.1
  ·exact .inr (by omega)
 ·have h1:=hW.nT b off v hv
  have dn:=World.block_lt_of_cell? W _ h1
  have db:ob≠some b:=by intro e;rw [hW.free b off e] at hv;cases hv
  rw [World.cell?_of_block (tW b dn db)]
  exact h1
 ·refine hW.tr.trans ⟨.refl _,fun b hb dn=> ?_,fun _ _ _=>rfl,q9,zC⟩
  exact tW b dn (fun e=>hb (.inr e))
structure afG (c:Ctx) (sz n cp:Nat) (cells:List Value) (dm:Array Value) (φ:Ph) (i j:Nat) (ys:List MV):Prop where
 size:dm.size=cp *sz
 done:a8 c.key φ sz (dm.toList.take (i *sz)) ys
 len:ys.length=i
 rest:(dm.toList.take (n *sz)).drop (j *sz)=cells.drop (j *sz)
def YR (c:Ctx) (ob:Option Nat) {S:Type} (Inv:S→(Nat→Prop)→Ph→World→Prop) (step:S→MV→Option (Bool×S)) (Z0:Nat→Prop) (φ0:Ph) (w:World) (xs ys:List MV) (s0 s':S) (v:Value) (W:World):Prop:=
 ∃Z φ,(∀b,ob=some b→W.heap[b]? =w.heap[b]?)∧((v= .int .i64 (-1)∧ys=xs∧y9 c ob Inv Z0 φ0 w s' Z φ W)∨
  ∃k,∃hk:k<xs.length,∃sk,v= .int .i64 (k:Int)∧lZ step s0 (xs.take (k+1))=some (xs.take k,sk)∧y9 c ob Inv Z0 φ0 w sk Z φ W)
theorem Mj (hf:Vy P f t ti tb fu fi el fn r o) (Uk:Vv P fi t ti el fni ri oi) (hp:vp P c g lb Inv step) (hT:kK P c.ti) (hE:c.tv el=some E) (ez:E.st=true) (eD:0<E.size) {xs:List MV} {cells:List Value} {dm:Array Value} {s0 s':S} {ys:List MV}
 (Fb: ∀x∈xs,∃ms,x= .agg ms) (Lv:0<xs.length→ad=some ⟨g0,0,none⟩∧ob=some g0∧w.heap[g0]? =some (.cells dm el (0,0))∧dm.toList.take (xs.length *E.size)=cells∧xs.length≤cp∧dm.size=cp *E.size) (Tb: ∀b,ob=some b→ ¬Z0 b∧b<w.heap.size∧ ∀off,φ0 b off=none)
 (iP:a8 c.key φ0 E.size cells xs) (afF:xs.length<2^63) (hinv:Inv s0 Z0 φ0 w) (kG: ∀b,w.heap.size≤b→Z0 b) (jo:zZ φ0 w) (hd:lZ step s0 xs=some (ys,s')):
 Calls P f #[.slice ad xs.length cp,.func (.func g) #[] lb] w fun e W=> ∃v,e= .returned v∧ ∃Z φ,y9 c ob Inv Z0 φ0 w s' Z φ W∧
  ((v= .slice ad xs.length cp∧ys=xs∧ ∀b,ob=some b→W.heap[b]? =w.heap[b]?)∨
   (0<xs.length∧v= .slice (some ⟨g0,0,none⟩) ys.length cp∧ ∃lQ,W.heap[g0]? =some (.cells lQ el (0,0))∧lQ.size=cp *E.size∧a8 c.key φ E.size (lQ.toList.take (ys.length *E.size)) ys)):=by
 obtain ⟨nk,n9⟩:=bO hE
 obtain ⟨ie,z,nU,tz,Rc,YB,K4⟩:=od (hT _ E nk) n9
 obtain ⟨ie2,z2,Vm,TM,hzr⟩:=z7 hE hT
 rw [nU] at Vm
 cases Vm
 rw [YB] at TM
 cases TM
 have hz1: ∀v∈z.cells.toList,v.oneCell'=true:=(hzr (oe c.key fun _ _=>none)).cells
 have afH:fP P fi #[.slice ad xs.length cp,.func (.func g) #[] lb] w (YR c ob Inv step Z0 φ0 w xs ys s0 s'):=by
  refine xy Uk.pos Uk.name Uk.body ((Vw Uk hp hT hE ez Fb (fun h=>⟨(Lv h).1,(Lv h).2.1,(Lv h).2.2.1,(Lv h).2.2.2.1⟩) Tb iP afF hinv kG jo hd).mono ?_)
  rintro e W ⟨Z,φ,h1,h2⟩
  rcases h2 with ⟨rfl,h3,h4⟩|⟨k,hk,sk,rfl,h3,h4⟩
  ·exact ⟨_,rfl,Z,φ,h1,.inl ⟨rfl,h3,h4⟩⟩
  ·exact ⟨_,rfl,Z,φ,h1,.inr ⟨k,hk,sk,rfl,h3,h4⟩⟩
 refine calls_of_wp hf.pos hf.body ?_
 rw [hf.tmps]
 generalize Mi:(fun (e:Ending) (W:World)=> ∃v,e= .returned v∧ ∃Z φ,y9 c ob Inv Z0 φ0 w s' Z φ W∧
  ((v= .slice ad xs.length cp∧ys=xs∧ ∀b,ob=some b→W.heap[b]? =w.heap[b]?)∨
   (0<xs.length∧v= .slice (some ⟨g0,0,none⟩) ys.length cp∧ ∃lQ,W.heap[g0]? =some (.cells lQ el (0,0))∧lQ.size=cp *E.size∧a8 c.key φ E.size (lQ.toList.take (ys.length *E.size)) ys)))=acz
 have key: ∀a:Act,Tm a 42 (xr (xr (fun _=>undef) 0 (.slice ad xs.length cp)) 1 (.func (.func g) #[] lb))→(Fq r o).wp P (bodyPost P fn acz) a w:=by
  intro a aD
  unfold Fq
  refine wp_seq (wp_region ?_)
  rw [show List.range (#[o 0]:Array Oper).size=[0] from rfl]
  refine aD.step (v:= .slice none 0 0) rfl hf.ops.h0 (by decide) (cS hf.ops.h0 _) (fun a aD=> ?_)
  refine wp_seq (wp_region ?_)
  rw [show List.range (#[o 1,o 2,o 3,o 4]:Array Oper).size=[0,1,2,3] from rfl]
  refine aD.step (v:= .slice ad xs.length cp) rfl hf.ops.h1 (by decide) (aQ hf.ops.h1 _) (fun a aD=> ?_)
  refine aD.step (v:= .func (.func g) #[] lb) rfl hf.ops.h2 (by decide) (aQ hf.ops.h2 _) (fun a aD=> ?_)
  refine aD.call rfl hf.ops.h3 (by decide) (YO hf.ops.h3 rfl rfl rfl _) afH ?_
  clear afH
  rintro v W1 a1 ⟨Z,φ,AW,xm⟩ afI
  clear aD
  refine afI.step (v:=v) rfl hf.ops.h4 (by decide) (cS hf.ops.h4 _) (fun a2 Vi=> ?_)
  clear afI
  refine wp_seq (wp_seq (wp_region ?_))
  rw [show List.range (#[o 5,o 6]:Array Oper).size=[0,1] from rfl]
  refine Vi.step (v:=v) rfl hf.ops.h5 (by decide) (aQ hf.ops.h5 _) (fun a3 acC=> ?_)
  clear Vi
  rcases xm with ⟨rfl,rfl,hW⟩|⟨k,hk,sk,rfl,hdk,hW⟩
  ·refine acC.step (v:= .bool (decide ((-1:Int)= -1))) rfl hf.ops.h6 (by decide) (oR hf.ops.h6 rfl rfl _) (fun a aD=> ?_)
   refine aD.cond (b:=true) (by show Value.bool (decide ((-1:Int)= -1))=_;rfl) ?_
   simp only [if_true]
   refine wp_seq (wp_region ?_)
   rw [show List.range (#[o 7,o 8]:Array Oper).size=[0,1] from rfl]
   refine aD.step (v:= .slice ad ys.length cp) rfl hf.ops.h7 (by decide) (aQ hf.ops.h7 _) (fun a aD=> ?_)
   refine aD.step (v:= .slice ad ys.length cp) rfl hf.ops.h8 (by decide) (cS hf.ops.h8 _) (fun a aD=> ?_)
   refine wp_ret ?_
   refine Kp hf.res aD (v:= .slice ad ys.length cp) rfl ?_
   rw [←Mi]
   exact ⟨_,rfl,Z,φ,hW,.inl ⟨rfl,rfl,AW⟩⟩
  ·refine acC.step (v:= .bool (decide ((k:Int)= -1))) rfl hf.ops.h6 (by decide) (oR hf.ops.h6 rfl rfl _) (fun a aD=> ?_)
   refine aD.cond (b:=false) (by show Value.bool (decide ((k:Int)= -1))=_;rw [decide_eq_false (by omega)]) ?_
   simp only [Bool.false_eq_true,if_false]
   refine wp_skip ?_
   refine wp_seq (wp_seq (wp_region ?_))
   rw [show List.range (#[o 9,o 10,o 11]:Array Oper).size=[0,1,2] from rfl]
   refine aD.step (v:= .int .i64 (k:Int)) rfl hf.ops.h9 (by decide) (aQ hf.ops.h9 _) (fun a aD=> ?_)
   refine aD.step (v:= .int .i64 ((k+1:Nat):Int)) rfl hf.ops.P9 (by decide) (jT (q:=1) hf.ops.P9 rfl rfl (by omega) _) (fun a aD=> ?_)
   refine aD.step (v:= .int .i64 ((k+1:Nat):Int)) rfl hf.ops.Ot (by decide) (cS hf.ops.Ot _) (fun a4 afJ=> ?_)
   clear acC aD
   obtain ⟨acA,Rt,c8,bq,afK,ajA⟩:=Lv (by omega)
   have Ik:=Tb g0 Rt
   have afL: ∀b,ob=some b→b=g0:=fun b hb=>by rw [Rt] at hb;exact (Option.some.inj hb).symm
   have hmul: ∀{a b:Nat},a≤b→a *E.size≤b *E.size:=fun h=>Nat.mul_le_mul_right _ h
   refine wp_block (wp_loop (fun a W=> ∃σ,Tm a 42 σ∧σ 0= .slice (some ⟨g0,0,none⟩) xs.length cp∧σ 1= .func (.func g) #[] lb∧ ∃i j:Nat,i<j∧j≤xs.length∧σ 5= .int .i64 (i:Int)∧σ 6= .int .i64 (j:Int)∧
    ∃lQ sj Z φ yj,W.heap[g0]? =some (.cells lQ el (0,0))∧lZ step s0 (xs.take j)=some (yj,sj)∧y9 c ob Inv Z0 φ0 w sj Z φ W∧afG c E.size xs.length cp cells lQ φ i j yj)
    (fun a W=>match a.tmps.getD 6 undef with| .int _ k=>xs.length-k.toNat|_=>0) ?_ ?_)
   ·refine ⟨_,afJ,by show Value.slice ad xs.length cp=_;rw [acA],rfl,k,k+1,by omega,by omega,rfl,rfl,dm,sk,Z,φ,xs.take k,(AW g0 Rt).trans c8,hdk,hW,⟨ajA,?_,by rw [List.length_take];omega,by rw [bq]⟩⟩
    have h1:=(iP.mono hW.tr.ph).take k
    rw [←bq,List.take_take] at h1
    have h2:Nat.min (k *E.size) (xs.length *E.size)=k *E.size:=Nat.min_eq_left (hmul (by omega))
    rw [show min (k *E.size) (xs.length *E.size)=k *E.size from h2] at h1
    exact h1
   ·clear AW hdk hW afJ c8
    rintro a W ⟨σ,aD,h0,h1,i,j,NT,hjn,h5,h6,lQ,sj,Z',φ',yj,AW,hdj,hW,hR⟩
    have hm6:(match a.tmps.getD 6 undef with| .int _ k=>xs.length-k.toNat|_=>0)=xs.length-j:=by rw [aD.get 6,h6];simp
    rw [hm6]
    clear hm6
    have Xm: ∀b,ob=some b→ ¬Z' b:=fun b hb hz=>by
     have:=afL b hb
     subst this
     rcases hW.sub _ hz with h|h
     ·exact Ik.1 h
     ·have:=Ik.2.1;omega
    refine wp_seq (wp_seq (wp_region ?_))
    rw [show List.range (#[o 12,o 13,o 14,o 15]:Array Oper).size=[0,1,2,3] from rfl]
    refine aD.step (v:= .int .i64 (j:Int)) rfl hf.ops.Ou (by decide) ((aQ hf.ops.Ou _).trans (by show Result.ok (Next.value (σ 6)) W=_;rw [h6])) (fun a aD=> ?_)
    refine aD.step (v:= .slice (some ⟨g0,0,none⟩) xs.length cp) rfl hf.ops.Ov (by decide) ((aQ hf.ops.Ov _).trans (by show Result.ok (Next.value (σ 0)) W=_;rw [h0])) (fun a aD=> ?_)
    refine aD.step (v:= .int .i64 ((xs.length:Nat):Int)) rfl hf.ops.Ow (by decide) (mB hf.ops.Ow hf.uS rfl _) (fun a aD=> ?_)
    refine aD.step (v:= .bool (decide ((j:Int)<(xs.length:Int)))) rfl hf.ops.Ox (by decide) (Mg hf.ops.Ox rfl rfl _) (fun a aD=> ?_)
    by_cases dn:j<xs.length
    rotate_left
    ·
     refine aD.cond (b:=false) (by show Value.bool (decide ((j:Int)<(xs.length:Int)))=_;rw [decide_eq_false (by omega)]) ?_
     simp only [Bool.false_eq_true,if_false]
     refine wp_exit ?_
     have ajB:j=xs.length:=by omega
     subst ajB
     rw [List.take_length,hd] at hdj
     simp only [Option.some.injEq,Prod.mk.injEq] at hdj
     obtain ⟨rfl,rfl⟩:=hdj
     have hlen:=hR.len
     have q9:=hR.size
     have xh:i *E.size+(xs.length-i) *E.size≤lQ.size:=by
      rw [←Nat.add_mul,q9];exact hmul (by omega)
     have sa:i *E.size≤xs.length *E.size:=hmul (by omega)
     have Ia:xs.length *E.size≤cp *E.size:=hmul afK
     obtain ⟨zs,hzl,afM⟩:=xv (P:=P) (w:=W) (t:=t) (ty:=(o 40).type) (g:=g0) (off:=i *E.size) (n:=xs.length-i) (c:=cp-i) hf.uS nU YB K4 hz1 AW (by omega) xh
     have Xh:g0<W.heap.size:=Nat.lt_of_lt_of_le Ik.2.1 hW.tr.size
     obtain ⟨W3,hW3⟩: ∃W3,W3=W.setRow g0 (lQ.toList.take (i *E.size)++zs++lQ.toList.drop (i *E.size+zs.length)).toArray:=⟨_,rfl⟩
     rw [←hW3] at afM
     have zD:=hW.move hp (W2:=W3) (by rw [hW3];simp [World.setRow]) (fun b _ db=>by rw [hW3];exact setRow_other _ _ _ _ (fun e=>db (by rw [Rt,e]))) (by rw [hW3];exact .setRow _ _ _) Xm
     show Code.wp P (Code.seq _ _) _ a W
     refine wp_seq (wp_region ?_)
     rw [show List.range (#[o 37,o 38,o 39,o 40]:Array Oper).size=[0,1,2,3] from rfl]
     refine aD.step (v:= .slice (some ⟨g0,0,none⟩) xs.length cp) rfl hf.ops.h37 (by decide) ((aQ hf.ops.h37 _).trans (by show Result.ok (Next.value (σ 0)) W=_;rw [h0])) (fun a aD=> ?_)
     refine aD.step (v:= .int .i64 (i:Int)) rfl hf.ops.h38 (by decide) ((aQ hf.ops.h38 _).trans (by show Result.ok (Next.value (σ 5)) W=_;rw [h5])) (fun a aD=> ?_)
     refine aD.step rfl hf.ops.h39 (by decide) (nd hf.ops.h39 hf.uS nU tz rfl rfl (by omega) (by omega) _) (fun a aD=> ?_)
     refine aD.aaU (v:= .tuple #[]) rfl hf.ops.h40 (Qo hf.ops.h40 rfl afM) ?_
     refine wp_seq (wp_region ?_)
     rw [show List.range (#[o 41,o 42,o 43,o 44]:Array Oper).size=[0,1,2,3] from rfl]
     refine aD.step (v:= .slice (some ⟨g0,0,none⟩) xs.length cp) rfl hf.ops.h41 (by decide) ((aQ hf.ops.h41 _).trans (by show Result.ok (Next.value (σ 0)) W3=_;rw [h0])) (fun a aD=> ?_)
     refine aD.step (v:= .int .i64 (i:Int)) rfl hf.ops.h42 (by decide) ((aQ hf.ops.h42 _).trans (by show Result.ok (Next.value (σ 5)) W3=_;rw [h5])) (fun a aD=> ?_)
     refine aD.step (v:= .slice (some ⟨g0,0,none⟩) i cp) rfl hf.ops.h43 (by decide) (AZ hf.ops.h43 hf.uS nU tz rfl rfl (by omega) _) (fun a aD=> ?_)
     refine aD.step (v:= .slice (some ⟨g0,0,none⟩) i cp) rfl hf.ops.h44 (by decide) (cS hf.ops.h44 _) (fun a aD=> ?_)
     refine wp_ret ?_
     refine Kp hf.res aD (v:= .slice (some ⟨g0,0,none⟩) i cp) rfl ?_
     rw [←Mi]
     have oc:lQ.toList.length=cp *E.size:=by rw [Array.length_toList,q9]
     refine ⟨_,rfl,_,φ',zD,.inr ⟨by omega,by rw [hlen],_,by rw [hW3];exact uh _ AW,?_,?_⟩⟩
     ·simp only [List.size_toArray,List.length_append,List.length_take,List.length_drop,oc,hzl]
      have:(xs.length-i) *E.size+i *E.size=xs.length *E.size:=by rw [←Nat.add_mul];congr 1;omega
      omega
     ·rw [hlen,List.append_assoc,List.take_append_of_le_length (by rw [List.length_take,oc];omega),List.take_take,Nat.min_self]
      exact hR.done
    ·refine aD.cond (b:=true) (by show Value.bool (decide ((j:Int)<(xs.length:Int)))=_;rw [decide_eq_true (by omega)]) ?_
     simp only [if_true]
     refine wp_skip ?_
     obtain ⟨yk,Yt,b,sk2,e1,e2,e3⟩:=Qf hd dn
     rw [hdj] at e1
     simp only [Option.some.injEq,Prod.mk.injEq] at e1
     obtain ⟨rfl,rfl⟩:=e1
     have Vx:=iP.mono hW.tr.ph
     obtain ⟨hl,eW⟩:=Mh Vx dn
     obtain ⟨IK,JN⟩: ∃IK,IK=(cells.drop (j *E.size)).take E.size:=⟨_,rfl⟩
     rw [←JN] at hl eW
     have oc:lQ.toList.length=cp *E.size:=by rw [Array.length_toList,hR.size]
     have hj1:j *E.size+E.size≤xs.length *E.size:=by rw [←Nat.succ_mul];exact hmul dn
     have Ia:xs.length *E.size≤cp *E.size:=hmul afK
     have tP:i *E.size+E.size≤j *E.size:=by rw [←Nat.succ_mul];exact hmul NT
     have acB:W.rangeAt g0 (j *E.size) IK:=by
      intro q v hq
      have hql:q<E.size:=by have:=(List.getElem?_eq_some_iff.1 hq).1;omega
      rw [cell_of AW,←Array.getElem?_toList]
      rw [JN,List.getElem?_take_of_lt hql,←hR.rest,List.getElem?_drop,List.getElem?_take_of_lt (by omega)] at hq
      exact hq
     have iQ: ∀u∈IK,u.oneCell'=true:=fun u hu=>iP.xj u (by rw [JN] at hu;exact List.mem_of_mem_drop (List.mem_of_mem_take hu))
     obtain ⟨ms,LD⟩:=Fb _ (List.getElem_mem dn)
     have Oo:fj c.key φ' (.agg IK.toArray) xs[j]:=Fp eW LD
     have hsc:(Value.agg IK.toArray).cells.toList=IK:=by simp [Value.cells]
     refine wp_seq (wp_block ?_)
     refine wp_seq (wp_region ?_)
     rw [show List.range (#[o 16,o 17,o 18,o 19,o 20,o 21]:Array Oper).size=[0,1,2,3,4,5] from rfl]
     refine aD.step (v:= .slice (some ⟨g0,0,none⟩) xs.length cp) rfl hf.ops.Oy (by decide) ((aQ hf.ops.Oy _).trans (by show Result.ok (Next.value (σ 0)) W=_;rw [h0])) (fun a aD=> ?_)
     refine aD.step (v:= .int .i64 (j:Int)) rfl hf.ops.Vd (by decide) ((aQ hf.ops.Vd _).trans (by show Result.ok (Next.value (σ 6)) W=_;rw [h6])) (fun a aD=> ?_)
     refine aD.step rfl hf.ops.h18 (by decide) (Kn hf.ops.h18 hf.uS nU tz rfl rfl dn _) (fun a aD=> ?_)
     refine aD.step rfl hf.ops.h19 (by decide) (D7 hf.ops.h19 (hT _ E nk) n9 ez hl rfl acB) (fun a aD=> ?_)
     refine aD.step rfl hf.ops.h20 (by decide) (YN hf.ops.h20 nU YB _) (fun a aD=> ?_)
     have aaZ:(W.alloc (.cells z.cells el)).heap[W.heap.size]? =some (.cells z.cells el (0,0)):=km W _
     refine aD.aaW rfl hf.ops.Xo (Qt (v:= .agg IK.toArray) (off:=0) hf.ops.Xo (hT _ E nk) n9 rfl rfl (by rw [hsc,hl]) (by rw [hsc];exact iQ) aaZ (by rw [K4];omega)) ?_
     rw [hsc]
     obtain ⟨W2,RS⟩: ∃W2,W2=(W.alloc (.cells z.cells el)).setRow W.heap.size (z.cells.toList.take 0++IK++z.cells.toList.drop (0+E.size)).toArray:=⟨_,rfl⟩
     rw [←RS]
     have Lp:W2.heap.size=W.heap.size+1:=by rw [RS,setRow_size];simp
     have hold: ∀b,b<W.heap.size→W2.heap[b]? =W.heap[b]? :=fun b hb=>by
      rw [RS,setRow_other _ _ _ _ (by omega)]
      exact (dz.alloc W z.cells el).BK b hb
     have aa0:W2.heap[W.heap.size]? =some (.cells IK.toArray el (0,0)):=by
      rw [RS,uh _ aaZ]
      congr 3
      have:z.cells.toList.drop (0+E.size)=[]:=by rw [Nat.zero_add,List.drop_of_length_le];rw [Array.length_toList,K4];exact Nat.le_refl _
      rw [this];simp
     have Oz:Rest W W2:=by rw [RS];exact (Rest.alloc W z.cells el).trans (.setRow _ _ _)
     have Xh:g0<W.heap.size:=Nat.lt_of_lt_of_le Ik.2.1 hW.tr.size
     have zD:=hW.move hp (W2:=W2) (by omega) (fun b hb _=>hold b hb) Oz Xm
     have acD: ∀b,ob=some b→ ¬((Z' b∧b<W.heap.size)∨W2.heap.size≤b):=by
      intro b hb
      have:=afL b hb
      subst this
      rintro (h|h)
      ·exact Xm b hb h.1
      ·omega
     have aa1: ∀{W:World} {b:Nat},W.heap[b]? =some (.cells IK.toArray el (0,0))→W.rangeAt b 0 IK:=by
      intro W b hb q v hq
      rw [cell_of hb,Nat.zero_add]
      simpa using hq
     refine wp_seq (wp_region ?_)
     rw [show List.range (#[o 22,o 23,o 24,o 25]:Array Oper).size=[0,1,2,3] from rfl]
     refine aD.step (v:= .func (.func g) #[] lb) rfl hf.ops.Xp (by decide) ((aQ hf.ops.Xp _).trans (by show Result.ok (Next.value (σ 1)) W2=_;rw [h1])) (fun a aD=> ?_)
     refine aD.step rfl hf.ops.Xq (by decide) (D7 hf.ops.Xq (hT _ E nk) n9 ez hl rfl (aa1 aa0)) (fun a aD=> ?_)
     refine aD.call rfl hf.ops.Xr (by decide) (Qu hf.ops.Xr rfl rfl _) (hp.call zD.inv zD.new zD.nT Oo e2) ?_
     rintro v W3 a ⟨rfl,φ3,t1,t2,t3⟩ aD
     have Vz:W3.heap[g0]? =some (.cells lQ el (0,0)):=(t1.heap g0 (acD g0 Rt) (by omega)).trans ((hold g0 Xh).trans AW)
     have afN:W3.heap[W.heap.size]? =some (.cells IK.toArray el (0,0)):=(t1.heap _ (by rintro (h|h)<;>omega) (by omega)).trans aa0
     have hW3:y9 c ob Inv Z0 φ0 w sk2 (fun b=>(Z' b∧b<W.heap.size)∨W2.heap.size≤b) φ3 W3:=⟨t3,fun b hb=>zD.new b (Nat.le_trans t1.size hb),zD.sub,t2,zD.tr.trans (t1.sup fun b hb=> .inl (zD.sub b hb)),fun b off hb=>by rw [t1.free b off (acD b hb)];exact zD.free b off hb⟩
     refine aD.step (v:= .bool (!b)) rfl hf.ops.Xs (by decide) (Qk hf.ops.Xs rfl _) (fun a aD=> ?_)
     cases b with
     |true=>
      refine aD.cond (b:=false) rfl ?_
      simp only [Bool.false_eq_true,if_false]
      refine wp_skip ?_
      show Code.wp P (Code.region (r 10) #[o 34,o 35,o 36] false) _ a W3
      refine wp_region ?_
      rw [show List.range (#[o 34,o 35,o 36]:Array Oper).size=[0,1,2] from rfl]
      refine aD.step (v:= .int .i64 (j:Int)) rfl hf.ops.h34 (by decide) ((aQ hf.ops.h34 _).trans (by show Result.ok (Next.value (σ 6)) W3=_;rw [h6])) (fun a aD=> ?_)
      refine aD.step (v:= .int .i64 ((j+1:Nat):Int)) rfl hf.ops.h35 (by decide) (jT (q:=1) hf.ops.h35 rfl rfl (by omega) _) (fun a aD=> ?_)
      refine aD.step (v:= .int .i64 ((j+1:Nat):Int)) rfl hf.ops.h36 (by decide) (cS hf.ops.h36 _) (fun a aD=> ?_)
      refine ⟨⟨_,aD,h0,h1,i,j+1,by omega,by omega,h5,rfl,lQ,sk2,_,φ3,yj,Vz,by rw [e3];rfl,hW3,⟨hR.size,hR.done.mono t1.ph,hR.len,?_⟩⟩,?_⟩
      ·rw [show (j+1) *E.size=j *E.size+E.size from Nat.succ_mul _ _,←List.drop_drop,←List.drop_drop,hR.rest]
      ·have:a.tmps.getD 6 undef= .int .i64 ((j+1:Nat):Int):=by rw [aD.get 6];rfl
       rw [this];simp;omega
     |false=>
      refine aD.cond (b:=true) rfl ?_
      simp only [if_true]
      refine wp_seq (wp_region ?_)
      rw [show List.range (#[o 26,o 27,o 28,o 29,o 30]:Array Oper).size=[0,1,2,3,4] from rfl]
      refine aD.step (v:= .slice (some ⟨g0,0,none⟩) xs.length cp) rfl hf.ops.Xt (by decide) ((aQ hf.ops.Xt _).trans (by show Result.ok (Next.value (σ 0)) W3=_;rw [h0])) (fun a aD=> ?_)
      refine aD.step (v:= .int .i64 (i:Int)) rfl hf.ops.h27 (by decide) ((aQ hf.ops.h27 _).trans (by show Result.ok (Next.value (σ 5)) W3=_;rw [h5])) (fun a aD=> ?_)
      refine aD.step rfl hf.ops.h28 (by decide) (D7 hf.ops.h28 (hT _ E nk) n9 ez hl rfl (aa1 afN)) (fun a aD=> ?_)
      refine aD.step rfl hf.ops.h29 (by decide) (Kn hf.ops.h29 hf.uS nU tz rfl rfl (by omega) _) (fun a aD=> ?_)
      refine aD.aaW rfl hf.ops.Ve (Qt (v:= .agg IK.toArray) (off:=i *E.size) hf.ops.Ve (hT _ E nk) n9 rfl rfl (by rw [hsc,hl]) (by rw [hsc];exact iQ) Vz (by rw [hR.size];omega)) ?_
      rw [hsc]
      obtain ⟨W4,hW4⟩: ∃W4,W4=W3.setRow g0 (lQ.toList.take (i *E.size)++IK++lQ.toList.drop (i *E.size+E.size)).toArray:=⟨_,rfl⟩
      rw [←hW4]
      have acE:=hW3.move hp (W2:=W4) (by rw [hW4,setRow_size];exact Nat.le_refl _) (fun b _ db=>by rw [hW4];exact setRow_other _ _ _ _ (fun e=>db (by rw [Rt,e]))) (by rw [hW4];exact .setRow _ _ _) acD
      refine wp_region ?_
      rw [show List.range (#[o 31,o 32,o 33]:Array Oper).size=[0,1,2] from rfl]
      refine aD.step (v:= .int .i64 (i:Int)) rfl hf.ops.h31 (by decide) ((aQ hf.ops.h31 _).trans (by show Result.ok (Next.value (σ 5)) W4=_;rw [h5])) (fun a aD=> ?_)
      refine aD.step (v:= .int .i64 ((i+1:Nat):Int)) rfl hf.ops.h32 (by decide) (jT (q:=1) hf.ops.h32 rfl rfl (by omega) _) (fun a aD=> ?_)
      refine aD.step (v:= .int .i64 ((i+1:Nat):Int)) rfl hf.ops.h33 (by decide) (cS hf.ops.h33 _) (fun a aD=> ?_)
      show Code.wp P (Code.region (r 10) #[o 34,o 35,o 36] false) _ a W4
      refine wp_region ?_
      rw [show List.range (#[o 34,o 35,o 36]:Array Oper).size=[0,1,2] from rfl]
      refine aD.step (v:= .int .i64 (j:Int)) rfl hf.ops.h34 (by decide) ((aQ hf.ops.h34 _).trans (by show Result.ok (Next.value (σ 6)) W4=_;rw [h6])) (fun a aD=> ?_)
      refine aD.step (v:= .int .i64 ((j+1:Nat):Int)) rfl hf.ops.h35 (by decide) (jT (q:=1) hf.ops.h35 rfl rfl (by omega) _) (fun a aD=> ?_)
      refine aD.step (v:= .int .i64 ((j+1:Nat):Int)) rfl hf.ops.h36 (by decide) (cS hf.ops.h36 _) (fun a aD=> ?_)
      refine ⟨⟨_,aD,h0,h1,i+1,j+1,by omega,by omega,rfl,rfl,_,sk2,_,φ3,yj++[xs[j]],by rw [hW4];exact uh _ Vz,by rw [e3];rfl,acE,⟨?_,?_,by rw [List.length_append,hR.len];rfl,?_⟩⟩,?_⟩
      ·simp only [List.size_toArray,List.length_append,List.length_take,List.length_drop,oc,hl]
       omega
      ·rw [show (i+1) *E.size=i *E.size+E.size from Nat.succ_mul _ _]
       have h9:(lQ.toList.take (i *E.size)++IK).length=i *E.size+E.size:=by rw [List.length_append,List.length_take,oc,hl];omega
       show a8 c.key φ3 E.size (List.take (i *E.size+E.size) (lQ.toList.take (i *E.size)++IK++lQ.toList.drop (i *E.size+E.size))) _
       rw [←h9,List.take_left]
       exact (hR.done.mono t1.ph).append ⟨IK,[],by simp,hl,eW.mono t1.ph,rfl⟩
      ·show (List.take (xs.length *E.size) (lQ.toList.take (i *E.size)++IK++lQ.toList.drop (i *E.size+E.size))).drop ((j+1) *E.size)=_
       have h8:cells.drop ((j+1) *E.size)=(lQ.toList.take (xs.length *E.size)).drop ((j+1) *E.size):=by
        rw [show (j+1) *E.size=j *E.size+E.size from Nat.succ_mul _ _,←List.drop_drop,←List.drop_drop,hR.rest]
       rw [h8]
       apply List.ext_getElem?
       intro q
       have P9:(j+1) *E.size=j *E.size+E.size:=Nat.succ_mul _ _
       rw [List.getElem?_drop,List.getElem?_drop,List.getElem?_take,List.getElem?_take]
       split
       ·have h9:(lQ.toList.take (i *E.size)++IK).length=i *E.size+E.size:=by rw [List.length_append,List.length_take,oc,hl];omega
        rw [List.getElem?_append_right (by rw [h9];omega),h9,List.getElem?_drop]
        congr 1
        omega
       ·rfl
      ·have:a.tmps.getD 6 undef= .int .i64 ((j+1:Nat):Int):=by rw [aD.get 6];rfl
       rw [this];simp;omega
 exact key _ (tm2 _ _ 40)
theorem YS (hf:Vy P f t ti tb fu fi el fn r o) (Uk:Vv P fi t ti el fni ri oi) (hT:kK P c.ti) (hE:c.tv el=some E) (ez:E.st=true) (eD:0<E.size):Kc P c f el:=by
 refine ⟨?_⟩
 intro S Inv step g lb hp v0 xs ys w Z0 φ0 s0 s' Fb fX DB hinv kG jo hd
 obtain ⟨nk,n9⟩:=bO hE
 obtain ⟨I,cells,hI,TT,dQ,iP,jB⟩:=fX.row
 have hI:c.ti el=some I:=hI
 rw [nk] at hI
 cases hI
 have dQ:w.ownsRow 0 el E.size v0 xs.length cells:=dQ
 have iP:a8 c.key φ0 E.size cells xs:=iP
 have ql: ∀b,v0.ownBlock=some b→ ∀off,φ0 b off=none:=by
  intro b hb off
  cases h:φ0 b off with
  |none=>rfl
  |some u=>have:=((jB b hb).2.1 off u h).1;cases this
 rcases dQ.2 with ⟨rfl,h0⟩|⟨gb,cap,dm,rfl,_,c8,Ia,DW,r9,NX⟩
 ·have hx:xs=[]:=List.eq_nil_of_length_eq_zero h0
  subst hx
  refine xy hf.pos hf.name hf.body ((Mj (ob:=none) (g0:=0) (dm:= #[]) hf Uk hp hT hE ez eD (cp:=0) Fb (fun h=>absurd h (by simp)) (fun b hb=>by cases hb) iP (by simp) hinv kG jo hd).mono ?_)
  rintro e W ⟨v,rfl,Z,φ,hW,h1⟩
  rcases h1 with ⟨rfl,rfl,_⟩|⟨h1,_⟩
  ·exact ⟨_,rfl,Z,φ,hW,⟨E,[],nk,n9,⟨by simp,.inl ⟨rfl,rfl⟩⟩,rfl,fun bc hb=>by simp [Value.ownBlock] at hb⟩,fun _ h=>h⟩
  ·simp at h1
 ·have dn:=bB c8
  have ajD:xs.length<2^63:=by unfold Go.maxLen at DW;omega
  refine xy hf.pos hf.name hf.body ((Mj (ob:=some gb) (g0:=gb) hf Uk hp hT hE ez eD (cp:=cap) Fb (fun h=>⟨rfl,rfl,c8,NX,Ia,r9⟩) (fun b hb=>by cases hb;exact ⟨DB gb rfl,dn,ql gb rfl⟩) iP ajD hinv kG jo hd).mono ?_)
  rintro e W ⟨v,rfl,Z,φ,hW,h1⟩
  rcases h1 with ⟨rfl,rfl,h2⟩|⟨h0,rfl,lQ,h2,h3,h4⟩
  ·refine ⟨_,rfl,Z,φ,hW,⟨E,cells,nk,n9,⟨dQ.1,.inr ⟨gb,cap,dm,rfl,Nat.zero_le _,(h2 gb rfl).trans c8,Ia,DW,r9,NX⟩⟩,iP.mono hW.tr.ph,fun bc hb=>⟨hb,fun off u hu=> ?_,fun hc=>hc.elim⟩⟩,fun _ h=>h⟩
   have hu:φ bc off=some u:=hu
   rw [hW.free bc off hb] at hu;cases hu
  ·have hle:ys.length≤cap:=Nat.le_trans (U9 hd) Ia
   refine ⟨_,rfl,Z,φ,hW,⟨E,lQ.toList.take (ys.length *E.size),nk,n9,⟨?_,.inr ⟨gb,cap,lQ,rfl,Nat.zero_le _,?_,hle,DW,h3,rfl⟩⟩,h4,fun bc hb=>⟨hb,fun off u hu=> ?_,fun hc=>hc.elim⟩⟩,fun _ h=>h⟩
   ·exact h4.length
   ·have:lQ=lQ:=rfl
    exact h2
   ·have hu:φ bc off=some u:=hu
    rw [hW.free bc off hb] at hu;cases hu
end
end Dn
/-
  Reasoning about functions on typed values. Conditions: none.
-/
set_option linter.unusedVariables false
namespace Dn
open Go
section
variable {α R:Type}
theorem bt {l:List α} {k:Nat} (h:k<l.length) (K:α→Option R):ix l (k:Int) K=K l[k]:=by
 simp [ix,h]
theorem Am {l:List α} {i:Int} (h0:0≤i) (h:i.toNat<l.length) (K:α→Option R):ix l i K=K l[i.toNat]:=by
 simp [ix,h,h0]
@[simp] theorem Gt {A : Type} (x : Option A) : bd x (fun a => some a) = x := by cases x <;> rfl
end
def bu {A:Type} (x:Option A) (Q:A→Prop):Prop:= ∃a,x=some a∧Q a
section
variable {A B α σ ρ:Type}
theorem bu.mk {a:A} {Q:A→Prop} (h:Q a):bu (some a) Q:=⟨a,rfl,h⟩
theorem bu.of {x:Option A} {a:A} {Q:A→Prop} (e:x=some a) (h:Q a):bu x Q:=⟨a,e,h⟩
theorem bu.bd {x:Option A} {K:A→Option B} {P:A→Prop} {Q:B→Prop} (h:bu x P) (hk: ∀a,P a→bu (K a) Q):bu (bd x K) Q:=by
 obtain ⟨a,rfl,hp⟩:=h;exact hk a hp
theorem bu.imp {x:Option A} {P Q:A→Prop} (h:bu x P) (Oc: ∀a,P a→Q a):bu x Q:=by
 obtain ⟨a,e,hp⟩:=h;exact ⟨a,e,Oc a hp⟩
theorem bu.ix {l:List α} {k:Nat} {K:α→Option A} {Q:A→Prop} (h:k<l.length) (hk:bu (K l[k]) Q):bu (ix l (k:Int) K) Q:=by rw [bt h];exact hk
theorem bu.eq {x:Option A} {a:A} (h:bu x (· =a)):x=some a:=by obtain ⟨b,e,rfl⟩:=h;exact e
variable {body:σ→Option (Sum σ ρ)}
theorem bu.loop (I:σ→Prop) (μ:σ→Nat) {Q:ρ→Prop} {s:σ} (hs:I s) (h: ∀s,I s→bu (body s) fun x=>match x with| .inl s'=>I s'∧μ s'<μ s| .inr r=>Q r):bu (Loop body s) Q:=by
 refine Vo I μ Q (fun s hs=> ?_) hs
 obtain ⟨x,e,hx⟩:=h s hs
 cases x with
 |inl s'=>exact .inl ⟨s',e,hx⟩
 |inr r=>exact .inr ⟨r,e,hx⟩
theorem bu.count (S:Nat→σ) (n:Nat) {Q:ρ→Prop} (P:Nat→Prop) {s:σ} (e:s=S 0) (h0:P 0) (h: ∀k,k<n→P k→bu (body (S k)) fun x=>match x with| .inl s'=>s'=S (k+1)∧P (k+1)| .inr r=>Q r)
 (he:P n→bu (body (S n)) fun x=>match x with| .inl _=>False| .inr r=>Q r):bu (Loop body s) Q:=by
 subst e
 refine Vp S n Q P h0 (fun k hk hp=> ?_) (fun hp=> ?_)
 ·obtain ⟨x,e,hx⟩:=h k hk hp
  cases x with
  |inl s'=>obtain ⟨rfl,hx⟩:=hx;exact .inl ⟨e,hx⟩
  |inr r=>exact .inr ⟨r,e,hx⟩
 ·obtain ⟨x,e,hx⟩:=he hp
  cases x with
  |inl s'=>exact hx.elim
  |inr r=>exact ⟨r,e,hx⟩
end
theorem wrap64 {x:Int} (h1: -9223372036854775808≤x) (h2:x≤9223372036854775807):IntKind.wrap .i64 x=x:=YE h1 h2
end Dn
/-
  Functions of the library, on typed values. Conditions: none.
-/
set_option linter.unusedVariables false
namespace Dn
open Go
def KJ (x y:Int):Int:=if x<y then-1 else if y<x then 1 else 0
def o9 {α:Type} (key:α→Int) (L:List α) (s:Int):Nat:=L.countP (fun e=>decide (key e<s))
def ka {α:Type} (key:α→Int) (L:List α) (s:Int):Bool:=L.any fun e=>decide (key e=s)
def oK {α:Type} (key:α→Int) (L:List α):Prop:=L.Pairwise fun a b=>key a<key b
section
variable {α τ:Type} {key:α→Int}
theorem ac1 {L:List α} {s:Int} {p:Nat} (hp:p≤L.length) (h1: ∀k (hk:k<L.length),k<p→key L[k]<s) (h2: ∀k (hk:k<L.length),p≤k→s≤key L[k]):o9 key L s=p:=by
 have h3:(L.take p).countP (fun e=>decide (key e<s))=(L.take p).length:=by
  rw [List.countP_eq_length]
  intro a ha
  obtain ⟨k,hk,rfl⟩:=List.mem_iff_getElem.1 ha
  have JS:k<p:=by rw [List.length_take] at hk;omega
  rw [List.getElem_take]
  exact decide_eq_true (h1 k (by omega) JS)
 have h4:(L.drop p).countP (fun e=>decide (key e<s))=0:=by
  rw [List.countP_eq_zero]
  intro a ha
  obtain ⟨k,hk,rfl⟩:=List.mem_iff_getElem.1 ha
  rw [List.length_drop] at hk
  rw [List.getElem_drop]
  have:=h2 (p+k) (by omega) (by omega)
  simp;omega
 have h5:o9 key L s=(L.take p++L.drop p).countP (fun e=>decide (key e<s)):=by rw [List.take_append_drop];rfl
 rw [h5,List.countP_append,h3,h4,List.length_take]
 omega
theorem oK.lt {L:List α} (hs:oK key L) {i j:Nat} (hj:j<L.length) (h:i<j):key (L[i]'(by omega))<key L[j]:=List.pairwise_iff_getElem.1 hs i j (by omega) hj h
theorem oK.le {L:List α} (hs:oK key L) {i j:Nat} (hj:j<L.length) (h:i≤j):key (L[i]'(by omega))≤key L[j]:=by
 rcases Nat.lt_or_eq_of_le h with h|h
 ·exact Int.le_of_lt (hs.lt hj h)
 ·subst h;exact Int.le_refl _
theorem O7 (L:List α) (s:Int):o9 key L s≤L.length:=List.countP_le_length
theorem oK.lb {L:List α} (hs:oK key L) (s:Int):(∀k (hk:k<L.length),k<o9 key L s→key L[k]<s)∧(∀k (hk:k<L.length),o9 key L s≤k→s≤key L[k]):=by
 have: ∃p,p≤L.length∧(∀k (hk:k<L.length),k<p→key L[k]<s)∧(∀k (hk:k<L.length),p≤k→s≤key L[k]):=by
  induction L with
  |nil=>exact ⟨0,Nat.le_refl _,fun k hk=>by simp at hk,fun k hk=>by simp at hk⟩
  |cons a l ih=>
   have yi:=List.pairwise_cons.1 hs
   by_cases ha:key a<s
   ·obtain ⟨p,h1,h2,h3⟩:=ih yi.2
    refine ⟨p+1,by simp;omega,fun k hk O8=> ?_,fun k hk O8=> ?_⟩
    ·cases k with
     |zero=>exact ha
     |succ k=>exact h2 k (by simpa using hk) (by omega)
    ·cases k with
     |zero=>omega
     |succ k=>exact h3 k (by simpa using hk) (by omega)
   ·refine ⟨0,Nat.zero_le _,fun k hk O8=>by omega,fun k hk _=> ?_⟩
    cases k with
    |zero=>simp;omega
    |succ k=>
     have:=yi.1 (l[k]'(by simpa using hk)) (List.getElem_mem _)
     simp only [List.getElem_cons_succ];omega
 obtain ⟨p,h1,h2,h3⟩:=this
 rw [ac1 h1 h2 h3]
 exact ⟨h2,h3⟩
theorem oK.has {L:List α} (hs:oK key L) (s:Int):ka key L s=true↔ ∃h:o9 key L s<L.length,key L[o9 key L s]=s:=by
 obtain ⟨h1,h2⟩:=hs.lb s
 unfold ka
 rw [List.any_eq_true]
 constructor
 ·rintro ⟨x,hx,he⟩
  obtain ⟨k,hk,rfl⟩:=List.mem_iff_getElem.1 hx
  have he:key L[k]=s:=by simpa using he
  have Ta:o9 key L s≤k:=by
   refine Nat.le_of_not_lt fun dn=> ?_
   have:=h1 k hk dn;omega
  have hl:o9 key L s<L.length:=by omega
  refine ⟨hl,?_⟩
  have:=h2 _ hl (Nat.le_refl _)
  have:=hs.le hk Ta
  omega
 ·rintro ⟨h,he⟩
  exact ⟨_,List.getElem_mem h,decide_eq_true he⟩
theorem Bz {L:List α} {s:Int}:ka key L s=true↔ ∃x∈L,key x=s:=by simp [ka]
noncomputable def bsL (x:List α) (target:τ) (cmp:α→τ→Option Int) (st:Int×Int):Option ((Int×Int)⊕Int):=
 if st.1<st.2 then
 if (0:Int)≤1 then
 ix x (IntKind.wrap .i64 (Int.fdiv (IntKind.wrap .u64 (IntKind.wrap .i64 (st.1+st.2))) (2^min (Int.toNat 1) (IntKind.bits .u64)))) fun y=>
 bd (cmp y target) fun rA=>
 bd (
  if rA<0 then
  some (IntKind.wrap .i64 ((IntKind.wrap .i64 (Int.fdiv (IntKind.wrap .u64 (IntKind.wrap .i64 (st.1+st.2))) (2^min (Int.toNat 1) (IntKind.bits .u64))))+1),st.2)
  else
  some (st.1,IntKind.wrap .i64 (Int.fdiv (IntKind.wrap .u64 (IntKind.wrap .i64 (st.1+st.2))) (2^min (Int.toNat 1) (IntKind.bits .u64)))):Option (Int×Int)) fun w1=>
 some (.inl (w1.1,w1.2))
 else none
 else
 some (.inr st.1)
noncomputable def bsearch (x:List α) (target:τ) (cmp:α→τ→Option Int):Option (Int×Bool):=
 bd (Loop (bsL x target cmp) (0,(x.length:Int))) fun w=>
 bd (
  if w<(x.length:Int) then
  ix x w fun y1=>
  bd (cmp y1 target) fun aX=>
  some (w,decide (aX=0))
  else
  some (w,false):Option (Int×Bool)) fun w2=>
 some (w2.1,w2.2)
theorem Gu {L:List α} {s:Int} {cmp:α→Int→Option Int} (hs:oK key L) (hl:L.length<2^60) (hc: ∀a,cmp a s=some (KJ (key a) s)):bsearch L s cmp=some ((o9 key L s:Int),ka key L s):=by
 obtain ⟨vf,wg⟩:=hs.lb s
 have hle:=O7 (key:=key) L s
 have fW:Loop (bsL L s cmp) (0,(L.length:Int))=some (o9 key L s:Int):=by
  refine bu.eq (bu.loop (fun st=> ∃i j:Nat,st=((i:Int),(j:Int))∧i≤o9 key L s∧o9 key L s≤j∧j≤L.length) (fun st=>(st.2-st.1).toNat) ⟨0,L.length,rfl,Nat.zero_le _,hle,Nat.le_refl _⟩ ?_)
  rintro st ⟨i,j,rfl,hi,hj,GY⟩
  unfold bsL
  by_cases dn:i<j
  ·have hm:(i+j)/2<L.length:=by omega
   simp only [show ((i:Int)<(j:Int)) by omega,if_true,show ((0:Int)≤1) by decide,Vn (by omega:i+j<2^62),bt hm,hc,aA]
   by_cases hlb:(i+j)/2<o9 key L s
   ·have hk:=vf _ hm hlb
    have:KJ (key L[(i+j)/2]) s= -1:=by simp [KJ,hk]
    simp only [this,show ((-1:Int)<0) by decide,if_true,aA]
    rw [wrap64 (by omega) (by omega)]
    exact .mk ⟨⟨(i+j)/2+1,j,by simp,by omega,hj,GY⟩,by omega⟩
   ·have hk:=wg _ hm (by omega)
    have: ¬KJ (key L[(i+j)/2]) s<0:=by unfold KJ;rw [if_neg (by omega)];split<;>omega
    simp only [this,if_false,aA]
    exact .mk ⟨⟨i,(i+j)/2,rfl,hi,by omega,by omega⟩,by omega⟩
  ·simp only [show¬((i:Int)<(j:Int)) by omega,if_false]
   exact .mk (by show (i:Int)=(o9 key L s:Int);omega)
 unfold bsearch
 rw [fW]
 simp only [aA]
 by_cases dn:o9 key L s<L.length
 ·simp only [show ((o9 key L s:Int)<(L.length:Int)) by omega,if_true,bt dn,hc,aA]
  have h3:=wg _ dn (Nat.le_refl _)
  have:decide (KJ (key L[o9 key L s]) s=0)=ka key L s:=by
   unfold KJ
   rw [if_neg (by omega)]
   by_cases he:key L[o9 key L s]=s
   ·rw [if_neg (by omega),decide_eq_true rfl,(hs.has s).2 ⟨dn,he⟩]
   ·rw [if_pos (by omega),decide_eq_false (by decide)]
    symm;rw [Bool.eq_false_iff]
    intro hh
    obtain ⟨_,hh⟩:=(hs.has s).1 hh
    exact he hh
  rw [this]
 ·simp only [show¬((o9 key L s:Int)<(L.length:Int)) by omega,if_false,aA]
  have:ka key L s=false:=by
   rw [Bool.eq_false_iff]
   intro hh
   obtain ⟨hh,_⟩:=(hs.has s).1 hh
   exact dn hh
  rw [this]
def Gv (key:α→Int) (L:List α) (a:α):List α:=L.take (o9 key L (key a))++[a]++L.drop (o9 key L (key a))
theorem Gw {L:List α} {a:α} {by':Nat} (hb:(L.length+1) *by'≤2^46):qx by' L (o9 key L (key a):Int) [a]=some (Gv key L a):=by
 unfold qx
 rw [if_pos]
 ·rfl
 ·exact ⟨by omega,by simpa using O7 L _,by simp,by simpa using hb⟩
theorem yN {L:List α} {by':Nat} (h:L.length *by'≤2^46):jE by' L=some L:=if_pos h
end
section
variable {α ρ:Type}
theorem take_succ {L:List α} {k:Nat} (hk:k<L.length):L.take (k+1)=L.take k++[L[k]]:=(List.take_append_getElem hk).symm
theorem nP {body:Int→Option (Int⊕(Unit⊕ρ))} (n:Nat) (p:Nat→Prop) (c:ρ) (h: ∀k,k<n→(∀j,j<k→p j)→(p k→body (k:Int)=some (.inl ((k+1:Nat):Int)))∧(¬p k→body (k:Int)=some (.inr (.inr c))))
 (he:body (n:Int)=some (.inr (.inl ()))):bu (Loop body 0) fun r=>(r= .inl ()∧ ∀k,k<n→p k)∨(r= .inr c∧ ∃k,k<n∧ ¬p k):=by
 refine bu.count (fun k=>(k:Int)) n (fun k=> ∀j,j<k→p j) rfl (fun j hj=>by omega) (fun k hk hp=> ?_) (fun hp=> ?_)
 ·by_cases Xl:p k
  ·refine .of ((h k hk hp).1 Xl) ⟨rfl,fun j hj=> ?_⟩
   by_cases Yl:j=k
   ·subst Yl;exact Xl
   ·exact hp j (by omega)
  ·exact .of ((h k hk hp).2 Xl) (.inr ⟨rfl,k,hk,Xl⟩)
 ·exact .of he (.inl ⟨rfl,hp⟩)
theorem yO [DecidableEq α] {a b:List α} {body:Int→Option (Int⊕(Unit⊕Bool))} (hl:a.length=b.length) (h: ∀k (ha:k<a.length) (hb:k<b.length),body (k:Int)=some (if a[k]=b[k] then .inl ((k+1:Nat):Int) else .inr (.inr false)))
 (he:body (a.length:Int)=some (.inr (.inl ()))):Loop body 0=some (if a=b then .inl () else .inr false):=by
 obtain ⟨r,e,hr⟩:=nP (body:=body) a.length (fun k=>a[k]? =b[k]?) false (fun k hk _=>by
  have hkb:k<b.length:=by omega
  rw [List.getElem?_eq_getElem hk,List.getElem?_eq_getElem hkb,h k hk hkb]
  constructor
  ·intro hh;rw [if_pos (by simpa using hh)]
  ·intro hh;rw [if_neg (by simpa using hh)]) he
 rw [e]
 rcases hr with ⟨rfl,mb⟩|⟨rfl,k,hk,db⟩
 ·rw [if_pos]
  refine List.ext_getElem? fun k=> ?_
  by_cases hk:k<a.length
  ·exact mb k hk
  ·rw [List.getElem?_eq_none (by omega),List.getElem?_eq_none (by omega)]
 ·rw [if_neg]
  intro O9;subst O9;exact db rfl
end
end Dn
/-
  Maps as lists of entries: what is there behind a store. Conditions: none.
-/
set_option linter.unusedVariables false
namespace Dn
open Go
end Dn
/-
  A state in which variables of packages have given data. Conditions: none.
-/
set_option linter.unusedVariables false
set_option linter.unusedSimpArgs false
namespace Dn
open Go
def cellsD:Nat→DataW Unit→List Value
 |n+1,.agg ds=>ds.flatMap (cellsD n)
 |_,.lit (.int k v)=>[.int k v]
 |_,_=>[]
def S0 (cs:Array Value):Obj→Obj
 | .cells _ t z=> .cells cs t z
 |o=>o
def GV (P:Program):List (String×DataW Unit)→Array Obj→Array Obj
 |[],h=>h
 |x::r,h=>match P.globalNamed x.1 with
  |some g=>GV P r (h.modify g (S0 (cellsD 4 x.2).toArray))
  |none=>GV P r h
noncomputable def ahc (P:Program) (l:List (String×DataW Unit)) (os:Os) (args:Array Value):World:=
 {World.holding P os ⟨#[],args,[]⟩ with heap:=GV P l (World.holding P os ⟨#[],args,[]⟩).heap}
theorem Nk {a b:Bool} (h1:a=true) (h2:b=true):(a&&b)=true:=by rw [h1,h2];rfl
def zn:List Char:=[99,117,116].map Char.ofNat
theorem ahd:(zn== "gc".toList)=false:=by kernel_rfl
theorem Z7:(zn== "spec".toList)=false:=by kernel_rfl
theorem adg:(zn== "cut".toList)=true:=by kernel_rfl
theorem PD:(zn== "carried".toList)=false:=by kernel_rfl
section
variable {P:Program} {L:List (List Char)} {ns:List Nat}
theorem Jv (h:P.initOrder=String.ofList (ns.map Char.ofNat)):P.initOrder.toList=ns.map Char.ofNat:=by rw [h,String.toList_ofList]
theorem Z8 {h s:List Char} (e:wordsSigns P.initOrder.toList=h::s::L) (h1:isSumSigns s=true) (h2:(h== "harness".toList)=true):P.mainIs=some (true,s):=by
 unfold Program.mainIs
 rw [e]
 simp only [h1,h2,Bool.not_true,Bool.false_eq_true,if_false,if_true]
theorem Z9 (e:behindMainWord (wordsSigns P.initOrder.toList)=zn::L):P.make=some .cut:=by
 unfold Program.make
 rw [e]
 simp only [ahd,Z7,adg,Bool.or_false,Bool.false_eq_true,if_false,Bool.true_or,if_true]
theorem adh (e:behindMainWord (wordsSigns P.initOrder.toList)=zn::L) (h1:(stripLifts liftWords (zn::L)).1=[]) (h2:((stripLifts liftWords (zn::L)).2.head? ==some "cut".toList)=true)
 (h3:P.doorFits []=true) (h4:P.laysLater=false) (h5:P.bearsReflect=false):P.mayEnter=true:=by
 unfold Program.mayEnter
 rw [e]
 simp only [h1,h2,h3,h4,h5,List.contains_nil,Bool.false_or,Bool.not_false,Bool.true_and,Bool.and_true,Bool.or_true]
theorem Xa (e:behindMainWord (wordsSigns P.initOrder.toList)=zn::L) (h1:(stripLifts liftWords (zn::L)).1=[]):P.liftsFinal=false:=by
 unfold Program.liftsFinal Program.headLifts
 rw [e]
 have h0:((zn::L).head? ==some "carried".toList)=false:=by
  simp only [List.head?_cons]
  have:=PD
  simpa using this
 simp only [h0,h1,Bool.false_and,Bool.false_or]
 split<;>rfl
theorem aaa {c:OpenClaim} (h:P.make=some .cut) (hc:c.make= .cut):(P.make==some c.make)=true:=by rw [h,hc];rfl
theorem Xb {c:OpenClaim} (h:P.liftsFinal=false) (hc:c.lifted=false):(c.lifted==P.liftsFinal)=true:=by rw [h,hc];rfl
end
end Dn
