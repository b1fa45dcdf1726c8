import Derived.Test.YtbkodohojpchjaaGreatDoorDnC
import Derived.Shelf.Strings.Split
import Derived.Shelf.Strings.SlTrimAscii
import Derived.Shelf.Strings.Runes
import Derived.Lib.IndexBytes
import Derived.Control
import Derived.Test.YtbkodohojpchjaaGreatDoorDnB
import Derived.LaidLaws
import Derived.Deep.DeepLaidRun
import Derived.Handed
import Derived.JoinedOf
import Derived.KernelRfl
/-
  Functions of package strings as table entries, by the shelf's contracts. Conditions: none.
-/
set_option linter.unusedSimpArgs false
set_option linter.unusedVariables false
namespace Dn
open Go
theorem Pk (c:UInt8): ∀l:List UInt8,Lib.splitK [c] 0 (Lib.count l [c]) l=dA c l:=by
 intro l
 induction l with
 |nil=>rw [Lib.count_one];rfl
 |cons b l ih=>
  by_cases hb:b=c
  ·subst hb
   have L2:Lib.index (b::l) [b]=0:=by rw [Lib.index];simp [List.isPrefixOf]
   rw [Lib.count_cons_eq,Nat.add_comm,Lib.splitK,L2]
   simp [dA,ih]
  ·rw [Lib.count_cons_ne b c l hb]
   have hp:([c]:List UInt8).isPrefixOf (b::l)=false:=by simp [List.isPrefixOf,Ne.symm hb]
   have L2:Lib.index (b::l) [c]=if Lib.index l [c]== -1 then-1 else Lib.index l [c]+1:=by rw [Lib.index,hp];simp
   simp only [dA,hb,if_false]
   rw [←ih]
   cases hk:Lib.count l [c] with
   |zero=>rfl
   |succ k=>
    have cI:Lib.index l [c]≠ -1:=by intro he;rw [Lib.count_miss he] at hk;cases hk
    have Qu:=Lib.index_ge l [c]
    obtain ⟨j,hj⟩: ∃j:Nat,Lib.index l [c]=j:=⟨(Lib.index l [c]).toNat,by omega⟩
    have VC:(Lib.index l [c]== -1)=false:=by simpa using cI
    rw [VC,if_neg (by decide)] at L2
    have Y8:(Lib.index (b::l) [c]== -1)=false:=by rw [L2,hj];simp;omega
    rw [Lib.splitK,Lib.splitK,VC,Y8,L2,hj]
    have e1:((j:Int)+1).toNat=j+1:=by omega
    simp [e1]
theorem Pl (c:UInt8) (s:ByteArray):(Lib.splitB ⟨#[c]⟩ 0 (Lib.countB s ⟨#[c]⟩) s).map (·.data.toList)=dA c s.data.toList:=by
 rw [Lib.splitB_data]
 exact Pk c _
section
variable {P:Program} {ρ:Go.Shelf.Ren} {c:Ctx}
theorem AE {f:FuncId} {args:Array Value} {w:World} {S:Ending→World→Prop} {R:Value→World→Prop} (he: ∀args w,(callFunc f args).run P w= .ok (.enter f args) w) (hc:Calls P f args w S) (h: ∀e w',S e w'→ ∃v,e= .returned v∧R v w'):
 fe P f args w R:=by
 unfold fe
 rw [he]
 exact hc.mono h
theorem Ib {key:Nat→Nat} {φ:Ph} {v:Value} {l:List UInt8} (h:kS key φ [v] (.s l)): ∃b:ByteArray,v= .string b∧b.data.toList=l:=by
 generalize hv:[v]=vs at h
 cases h
 rename_i b
 exact ⟨b,by simpa using hv,rfl⟩
theorem NT {Z:Nat→Prop} {φ:Ph} {w:World} {k:Nat} {vs:List Value} {a b:List UInt8} (hg:c.dP k=false) (h:ew c Z φ w k vs [.s a,.s b]): ∃x y:ByteArray,vs=[.string x,.string y]∧x.data.toList=a∧y.data.toList=b:=by
 simp only [ew,hg,Bool.false_eq_true,if_false] at h
 obtain ⟨v,u,rfl,⟨_,h1⟩,v2,u2,rfl,⟨_,h2⟩,rfl⟩:=h
 obtain ⟨x,rfl,hx⟩:=Ib h1
 obtain ⟨y,rfl,hy⟩:=Ib h2
 exact ⟨x,y,rfl,hx,hy⟩
theorem VD {Z:Nat→Prop} {φ:Ph} {w:World} {k:Nat} {kd:IntKind} {vs:List Value} {a:List UInt8} {n:Int} (hg:c.dP k=false) (h:ew c Z φ w k vs [.s a,.i kd n]): ∃x:ByteArray,vs=[.string x,.int kd n]∧x.data.toList=a:=by
 simp only [ew,hg,Bool.false_eq_true,if_false] at h
 obtain ⟨v,u,rfl,⟨_,h1⟩,v2,u2,rfl,⟨_,h2⟩,rfl⟩:=h
 obtain ⟨x,rfl,hx⟩:=Ib h1
 generalize hv:[v2]=vs at h2
 cases h2
 simp at hv
 subst hv
 exact ⟨x,rfl,hx⟩
theorem Pm (w:World) (q:Nat):Rest w (w.drewN q):=⟨rfl,rfl,rfl,fun _=>rfl⟩
theorem SK {φ:Ph} {w:World} (hi:yC φ w) {b:Nat} (hb:w.heap.size≤b) (off:Nat):φ b off=none:=by
 cases hp:φ b off with
 |none=>rfl
 |some u=>
  have:=World.block_lt_of_cell? w _ (hi _ _ _ hp)
  simp at this
  omega
theorem VE (L:Go.Proofs.Lays.n160 P ρ) (acb:(P.info? (ρ.t 116)).map (fun i=>(i.zero,i.size))=some (some (.agg (Array.replicate 256 (.bool false))),256)) (hg:c.dP (c.key (ρ.f 160))=false) {ms:List MV} {r:MV} (h:DG ms=some r):
 kp P c (ρ.f 160) ms r:=by
 unfold DG at h
 split at h
 ·rename_i a b
  cases hb:(Nat.ble 1 a.length&&Nat.ble a.length (2^46))&&(Nat.ble 2 b.length&&(Nat.ble b.length 1000&&b.all fun x=>decide (x.toNat<128))) with
  |false=>rw [hb] at h;cases h
  |true=>
   rw [hb] at h
   simp only [cond_true,Option.some.injEq] at h
   subst h
   simp only [Bool.and_eq_true] at hb
   obtain ⟨⟨h1,h2⟩,h3,h4,h5⟩:=hb
   have h1:=Nat.le_of_ble_eq_true h1
   have h2:=Nat.le_of_ble_eq_true h2
   have h3:=Nat.le_of_ble_eq_true h3
   have h4:=Nat.le_of_ble_eq_true h4
   intro φ w Z vs hz ha hi
   obtain ⟨x,y,rfl,rfl,rfl⟩:=NT hg ha
   refine AE (Go.Proofs.enters_of L.f160 (by kernel_rfl) rfl) (Go.Proofs.Any.strings_Trim_set L (Go.zero_of_info acb).1 (Go.zero_of_info acb).2 x y w (by rw [Lib.size_eq];exact h3) (by rw [Lib.size_eq];omega) (by rw [Lib.size_eq];omega) (by rw [Lib.size_eq];omega) (Go.Proofs.ascii_of_all h5)) ?_
   rintro e w' ⟨rfl,q,rfl⟩
   refine ⟨_,rfl,φ,?_,?_,?_⟩
   ·have g1:=dc.alloc w (Lib.setCells y.data.toList) (ρ.t 116)
    have g2:=dc.alloc (w.alloc (.cells (Lib.setCells y.data.toList) (ρ.t 116))) (Lib.setCells y.data.toList) (ρ.t 116)
    have g:=g1.trans' g2
    exact ⟨.refl φ,fun b _ hl=>g.Ae b hl,fun _ _ _=>rfl,g.size,g.rest.trans (Pm _ q)⟩
   ·intro b o v hv
    have g1:=dc.alloc w (Lib.setCells y.data.toList) (ρ.t 116)
    have g2:=dc.alloc (w.alloc (.cells (Lib.setCells y.data.toList) (ρ.t 116))) (Lib.setCells y.data.toList) (ρ.t 116)
    exact (g1.trans' g2).cell (hi b o v hv)
   ·exact ⟨rfl,by have:=kS.s (key:=c.key) (φ:=φ) (⟨(Lib.trimS x.data.toList y.data.toList).toArray⟩:ByteArray);simpa using this⟩
 ·cases h
theorem Mh (L:Go.Proofs.Lays.n151 P ρ) (hg:c.dP (c.key (ρ.f 151))=false) {ms:List MV} {r:MV} (h:qu ms=some r):kp P c (ρ.f 151) ms r:=by
 unfold qu at h
 split at h
 ·rename_i a n
  cases hb:decide (0≤n∧n<128) with
  |false=>rw [hb] at h;cases h
  |true=>
   rw [hb] at h
   simp only [cond_true,Option.some.injEq] at h
   subst h
   obtain ⟨h1,h2⟩:=of_decide_eq_true hb
   intro φ w Z vs hz ha hi
   obtain ⟨x,rfl,rfl⟩:=VD hg ha
   refine AE (Go.Proofs.enters_of L.f151 (by kernel_rfl) rfl) (Go.Proofs.Any.strings_ContainsRune_ascii L x n w h1 h2) ?_
   rintro e w' ⟨rfl,rfl⟩
   exact ⟨_,rfl,φ,.refl _ _ _,hi,rfl,.b _⟩
 ·cases h
open Go.Proofs Go.Shelf Go.RowKit in
theorem Pn (L:Go.Proofs.Lays.n146 P ρ) (hi9:(P.info? (ρ.t 9)).map (fun i=>(i.zero,i.size,i.bytes))=some (some (.string ByteArray.empty),1,16)) (s:ByteArray) (b:UInt8) (w:World) (hs:s.size<4294967281):
 Calls P (ρ.f 146) #[.string s,.string ⟨#[b]⟩] w fun e w'=>
  e= .returned (.slice (some ⟨w.heap.size,0,none⟩) (Lib.countB s ⟨#[b]⟩+1) (Lib.countB s ⟨#[b]⟩+1))∧w'=w.alloc (.cells ((Lib.splitB ⟨#[b]⟩ 0 (Lib.countB s ⟨#[b]⟩) s).map Value.string).toArray (ρ.t 9)):=by
 have h1:1≤(⟨#[b]⟩:ByteArray).size:=Nat.le_refl _
 have hle:=Lib.countB_le ⟨#[b]⟩ h1 s.size s (Nat.le_refl _)
 have hlen:=Lib.splitB_all ⟨#[b]⟩ h1 0 _ s rfl
 have hC:Calls P (ρ.f 138) #[.string s,.string ⟨#[b]⟩] w fun e w'=>e= .returned (.int .i64 (Lib.countB s ⟨#[b]⟩))∧w'=w:=by
  refine (Any.strings_Count_one {L with} s b w).mono fun e w' ⟨he,hw⟩=>⟨?_,hw⟩
  rw [he]
  show _=Ending.returned (Value.int .i64 ((Lib.count s.data.toList [b]:Nat):Int))
  rw [Lib.count_one]
  rfl
 have c:=Any.strings_genSplit_core {L with} hi9 s ⟨#[b]⟩ 0 (-1) (Lib.countB s ⟨#[b]⟩+1) w hs h1 (Nat.zero_le _)
  (fun x q hx=>(Any.strings_Index_one {L with} x b _).mono fun e w' ⟨he,hw⟩=>⟨by rw [he];show _=Ending.returned (Value.int .i64 (Lib.index x.data.toList [b]));rw [Lib.index_one],hw⟩)
  hC (by decide) (by decide) (by rw [if_pos (by decide)];omega)
 rw [Nat.add_sub_cancel,hlen] at c
 have e2:Lib.cellsOf (Lib.splitB ⟨#[b]⟩ 0 (Lib.countB s ⟨#[b]⟩) s) (Lib.countB s ⟨#[b]⟩+1)=((Lib.splitB ⟨#[b]⟩ 0 (Lib.countB s ⟨#[b]⟩) s).map Value.string).toArray:=by rw [←hlen];exact Lib.cellsOf_full _
 rw [e2] at c
 clear hC hlen hle e2
 have t3:=L.t3;have t9:=L.t9;have t31:=L.t31
 have a3:=L.a3;have a9:=L.a9;have a31:=L.a31
 have z3:=L.z3;have v3:=L.v3;have z9:=L.z9;have v9:=L.v9;have z31:=L.z31;have v31:=L.v31
 have ajG: ∀args w,(callFunc (ρ.f 221) args).run P w= .ok (.enter (ρ.f 221) args) w:=enters_of L.f221 (by kernel_rfl) rfl
 go_enter L.f146,Body.n146_ntmps ρ
 go_wp2_with (go_at_fn (ρ.f 221);refine c.mono ?_;rintro e w' ⟨rfl,hw⟩;rw [hw])
 go_ret
 exact ⟨rfl,rfl⟩
theorem DH {key:Nat→Nat} {φ:Ph}: ∀l:List ByteArray,aW key φ 1 (l.map Value.string) (l.map fun b=>MV.s b.data.toList)
 |[]=>rfl
 |b::l=>⟨[.string b],_,rfl,rfl,.s b,DH l⟩
theorem SL {I:TI} (L:Go.Proofs.Lays.n146 P ρ) (hi9:(P.info? (ρ.t 9)).map (fun i=>(i.zero,i.size,i.bytes))=some (some (.string ByteArray.empty),1,16)) (hg:c.dP (c.key (ρ.f 146))=false)
 (jb:c.ra (c.key (ρ.f 146))=ρ.t 9) (hI:c.tv (ρ.t 9)=some I) (K5:I.size=1) {ms:List MV} {r:MV} (h:wj ms=some r):kp P c (ρ.f 146) ms r:=by
 unfold wj at h
 split at h
 ·rename_i a b
  cases hb:Nat.ble a.length 4294967280 with
  |false=>rw [hb] at h;cases h
  |true=>
   rw [hb] at h
   simp only [cond_true,Option.some.injEq] at h
   subst h
   have hb:=Nat.le_of_ble_eq_true hb
   intro φ w Z vs hz ha hi
   obtain ⟨x,y,rfl,rfl,hy⟩:=NT hg ha
   have hy':y=⟨#[b]⟩:=by
    cases y with
    |mk d=>congr 1;apply Array.toList_inj.1;exact hy
   subst hy'
   have hs:x.size<4294967281:=by rw [Lib.size_eq];omega
   refine AE (Go.Proofs.enters_of L.f146 (by kernel_rfl) rfl) (Pn L hi9 x b w hs) ?_
   rintro e w' ⟨rfl,rfl⟩
   have h1:1≤(⟨#[b]⟩:ByteArray).size:=Nat.le_refl _
   have hle:=Lib.countB_le ⟨#[b]⟩ h1 x.size x (Nat.le_refl _)
   have hlen:=Lib.splitB_all ⟨#[b]⟩ h1 0 _ x rfl
   have iH:=Pl b x
   have g1:=dc.alloc w ((Lib.splitB ⟨#[b]⟩ 0 (Lib.countB x ⟨#[b]⟩) x).map Value.string).toArray (ρ.t 9)
   obtain ⟨rc,hc⟩:=bE hI
   refine ⟨_,rfl,φ,g1.trans (Z:=bC.plain Z) hz φ,fun b' o v hv=>g1.cell (hi b' o v hv),?_⟩
   show cQ _ _ _ _ _ ⟨c.ra (c.key (ρ.f 146)),false,_⟩
   rw [jb]
   generalize hpc:Lib.splitB ⟨#[b]⟩ 0 (Lib.countB x ⟨#[b]⟩) x=pcs at *
   rw [←iH,List.map_map]
   refine ⟨I,pcs.map Value.string,rc,hc,?_,by rw [K5];exact DH pcs,?_⟩
   ·rw [K5]
    refine ⟨by simp,.inr ⟨w.heap.size,Lib.countB x ⟨#[b]⟩+1,_,by simp [hlen],Nat.zero_le _,jW w _,by simp [hlen],by unfold Go.maxLen;rw [Lib.size_eq] at hle;omega,by simp [hlen],?_⟩⟩
    simp [List.take_of_length_le]
   ·intro a7 jk
    simp [Value.ownBlock] at jk
    subst jk
    exact ⟨hz _ (Nat.le_refl _),fun off u hu=>(by have hu:φ w.heap.size off=some u:=hu;rw [SK hi (Nat.le_refl _)] at hu;cases hu),fun hc=>False.elim hc⟩
 ·cases h
end
end Dn
/-
  slices.IndexFunc and slices.DeleteFunc of the library, walked, with whatever function. Conditions: none.
-/
set_option linter.unusedSimpArgs false
set_option linter.unusedVariables false
namespace Dn
open Go
section
variable {P:Program} {Q:Exit→Act→World→Prop} {ops:Array Oper} {o:Oper} {a:Act} {w w':World} {n:Nat} {σ:Nat→Value}
theorem tm2 (v0 v1:Value) (k:Nat):Tm {tmps:= #[v0,v1]++Array.replicate k undef,defers:=[]} (k+2) (wc (wc (fun _=>undef) 0 v0) 1 v1):=by
 refine ⟨rfl,by simp [Nat.add_comm],fun q=> ?_⟩
 by_cases h0:q=0
 ·subst h0;show (#[v0,v1]++Array.replicate k undef).getD 0 undef=v0;simp [Array.getElem?_append]
 by_cases h1:q=1
 ·subst h1;show (#[v0,v1]++Array.replicate k undef).getD 1 undef=v1;simp [Array.getElem?_append]
 have e: ∀{x y:Nat},x≠y→Nat.beq x y=false:=fun {x y} h=>by
  cases hq:Nat.beq x y with
  |false=>rfl
  |true=>exact absurd (Nat.eq_of_beq_eq_true hq) h
 simp only [wc,e h0,e h1,cond_false]
 have h3:2≤q:=by omega
 simp [Array.getElem?_append,Array.getElem?_replicate,show¬q<2 by omega]
 by_cases hk:q-2<k<;>simp [hk]
theorem Tm.call {i d:Nat} {op:Op} {rest:List Nat} {f:Nat} {args:Array Value} {Rp:Value→World→Prop} (aA:Tm a n σ) (hi:ops[i]? =some o) (ho:aJ o d op) (hd:d<n)
 (bJ:(execOp (ev σ) o).run P w=(callFunc f args).run P w) (hc:fe P f args w Rp) (h: ∀v w' a',Rp v w'→Tm a' n (wc σ d v)→wpOps P ops Q rest a' w'):wpOps P ops Q (i::rest) a w:=by
 rw [wpOps_cons]
 unfold wpOp
 simp only [hi,Region.wanted,ho.guard,if_true]
 left
 refine s6 (by rw [aA.eval];exact bJ) hc ?_
 intro v w' hr
 rw [ho.dst]
 exact h v w' _ hr (aA.put hd v)
theorem Ic {d:Nat} {t el:TypeId} {x y:Operand} {e:Operand→Value} {g n c j size:Nat} {i:TypeInfo} (ho:aJ o d (.indexAddr t x y)) (hu:P.underlying t=some (.slice el)) (hi:P.info? el=some i) (hs:i.size=size)
 (hx:e x= .slice (some ⟨g,0,none⟩) n c) (hy:e y= .int .i64 ((j:Nat):Int)) (hj:j<n) (w:World):(execOp e o).run P w= .ok (.value (.pointer (some ⟨g,j *size,none⟩))) w:=by
 have h2: ¬n≤j:=by omega
 simp [execOp,ho.op,hx,hy,Instr.indexAt,asIntOf,run_underlying hu,h2,Go.sizeOf,typeInfo,hi,hs,Addr.add_mid]
theorem Cw {c:Ctx} {d:Nat} {t:TypeId} {I:TI} {x:Operand} {e:Operand→Value} {g off:Nat} {vs:List Value} (ho:aJ o d (.load t x)) (hr:mI c.ti P t I) (hc:I.ct=[]) (dM:I.st=true) (hl:vs.length=I.size)
 (hx:e x= .pointer (some ⟨g,off,none⟩)) (hm:w.rangeAt g off vs):(execOp e o).run P w= .ok (.value (.agg vs.toArray)) w:=by
 rcases mT (P:=P) hr hc hl hm with ⟨_,h⟩|⟨h,_⟩
 ·have:=h w hm
  simp [execOp,ho.op,hx,this]
 ·rw [dM] at h;cases h
theorem VF {d:Nat} {t:TypeId} {e:Operand→Value} {i:TypeInfo} {z:Value} (ho:aJ o d (.alloc t)) (hi:P.info? t=some i) (hz:i.zero=some z) (w:World):
 (execOp e o).run P w= .ok (.value (.pointer (some ⟨w.heap.size,0,none⟩))) (w.alloc (.cells z.cells t)):=by
 simp [execOp,ho.op,Instr.alloc,zeroValue,typeInfo,hi,hz,newVar,newRow,newObj,Sem.run]
theorem NU {c:Ctx} {t:TypeId} {I:TI} {x y:Operand} {e:Operand→Value} {g off:Nat} {v:Value} {arr:Array Value} {T:TypeId} (ho:BA o (.store t x y)) (hr:mI c.ti P t I) (hc:I.ct=[]) (hx:e x= .pointer (some ⟨g,off,none⟩)) (hy:e y=v)
 (hs:v.cells.toList.length=I.size) (iB: ∀u∈v.cells.toList,u.oneCell'=true) (cF:w.heap[g]? =some (.cells arr T (0,0))) (vV:off+I.size≤arr.size):
 (execOp e o).run P w= .ok .skip (w.setRow g (arr.toList.take off++v.cells.toList++arr.toList.drop (off+I.size)).toArray):=by
 have:=lV (P:=P) (w:=w) hr hc hs iB cF vV
 simp [execOp,ho.op,hx,hy,this]
theorem Tm.Xz {i:Nat} {op:Op} {rest:List Nat} (aA:Tm a n σ) (hi:ops[i]? =some o) (ho:BA o op) (bJ:(execOp (ev σ) o).run P w= .ok .skip w')
 (h:wpOps P ops Q rest a w'):wpOps P ops Q (i::rest) a w:=by
 rw [wpOps_cons]
 unfold wpOp
 simp only [hi,Region.wanted,ho.guard,if_true]
 left
 unfold Oper.wp
 rw [aA.eval,bJ]
 simp only [Oper.upon]
 rw [ho.dst]
 exact h
theorem J8 {d:Nat} {t t':TypeId} {x y:Operand} {e:Operand→Value} {p q:Int} (ho:aJ o d (.binOp .lss t x y t')) (hx:e x= .int .i64 p) (hy:e y= .int .i64 q) (w:World):
 (execOp e o).run P w= .ok (.value (.bool (decide (p<q)))) w:=we ho hx hy (fun w=>by simp [Go.binOp,Op.intCmp]) w
theorem NV {d:Nat} {x y:Operand} {t:Array TypeId} {e:Operand→Value} {g:Nat} {lb:Array Value} {v:Value} (ho:aJ o d (.call {callee:= .value x,args:= #[y],argTypes:=t})) (hx:e x= .func (.func g) #[] lb) (hy:e y=v) (w:World):
 (execOp e o).run P w=(callFunc g (#[v]++lb)).run P w:=by
 simp [execOp,ho.op,resolve,invoke,hx,hy,Deferred.ofValue]
theorem VG {d:Nat} {x y:Operand} {t:Array TypeId} {e:Operand→Value} {g:Nat} {v u:Value} (ho:aJ o d (.call {callee:= .value (.func g),args:= #[x,y],argTypes:=t})) (he:e (.func g)= .func (.func g) #[] #[]) (hx:e x=v) (hy:e y=u) (w:World):
 (execOp e o).run P w=(callFunc g #[v,u]).run P w:=by
 simp [execOp,ho.op,resolve,invoke,he,hx,hy,Deferred.ofValue]
end
def Ie (r:Nat→Nat) (o:Nat→Oper):Code:=
 .seq (.region (r 0) #[o 0] false) (.seq (.seq (.region (r 1) #[o 1,o 2,o 3] false) (.block 0 (.loop (.seq (.region (r 2) #[o 4] false) (.seq (.cond (.tmp 9) .skip (.exit 0)) (.seq (.block 1 (.seq (.region (r 3) #[o 5,o 6] false) (.seq (.region (r 4) #[o 7,o 8,o 9,o 10,o 11,o 12] false) (.cond (.tmp 16) (.seq (.region (r 5) #[o 13,o 14] false) .ret) .skip)))) (.region (r 6) #[o 15,o 16] false))))))) (.seq (.region (r 7) #[o 17] false) .ret))
structure Y9 (t el ti:Nat) (o:Nat→Oper):Prop where
 h0:aJ (o 0) 4 (.assign (.const (.int .i64 0)))
 h1:aJ (o 1) 6 (.move (.tmp 0))
 h2:aJ (o 2) 7 (.call {callee:= .builtin .len,args:= #[.tmp 6],argTypes:= #[t]})
 h3:aJ (o 3) 8 (.move (.const (.int .i64 0)))
 h4:aJ (o 4) 9 (.binOp .lss ti (.tmp 8) (.tmp 7) ti)
 h5:aJ (o 5) 10 (.move (.tmp 8))
 h6:aJ (o 6) 5 (.assign (.tmp 10))
 h7:aJ (o 7) 11 (.move (.tmp 1))
 h8:aJ (o 8) 12 (.move (.tmp 0))
 h9:aJ (o 9) 13 (.move (.tmp 5))
 Nz:aJ (o 10) 14 (.indexAddr t (.tmp 12) (.tmp 13))
 L8:aJ (o 11) 15 (.load el (.tmp 14))
 L9:aJ (o 12) 16 (.call {callee:= .value (.tmp 11),args:= #[.tmp 15],argTypes:= #[el]})
 Ma:aJ (o 13) 17 (.move (.tmp 5))
 Mb:aJ (o 14) 4 (.assign (.tmp 17))
 Mc:aJ (o 15) 18 (.binOp .add ti (.tmp 8) (.const (.int .i64 1)) ti)
 Md:aJ (o 16) 8 (.move (.tmp 18))
 Sv:aJ (o 17) 4 (.assign (.const (.int .i64 (-1))))
structure SM (P:Program) (f t ti el:Nat) (fn:Func) (r:Nat→Nat) (o:Nat→Oper):Prop where
 pos:P.funcs[f]? =some fn
 name:(fn.name== "runtime.NumGoroutine")=false
 tmps:fn.ntmps=19
 res:fn.results= #[.tmp 4]
 body:fn.body=some (Ie r o)
 ops:Y9 t el ti o
 tM:P.underlying t=some (.slice el)
theorem Ig {P:Program} {fn:Func} {n:Nat} {a:Act} {w:World} {σ:Nat→Value} {R:Ending→World→Prop} {v:Value} (hr:fn.results= #[.tmp 4]) (aA:Tm a n σ) (h6:σ 4=v) (h:R (.returned v) w):bodyPost P fn R .ret a w:=by
 refine ⟨aA.defers,v,?_,h⟩
 have h2:a.tmps[4]?.getD undef=v:=by have:=aA.get 4;rw [h6] at this;simpa using this
 simp [results,hr,h2]
theorem J9 {key:Nat→Nat} {φ:Ph} {size:Nat} {xs:List MV} {cells:List Value} (h:aW key φ size cells xs) {k:Nat} (hk:k<xs.length):
 ((cells.drop (k *size)).take size).length=size∧kS key φ ((cells.drop (k *size)).take size) xs[k]:=by
 obtain ⟨p1,v1,p2,he,CR,vS,eu⟩:=h.at (List.getElem?_eq_getElem hk)
 have:(cells.drop (k *size)).take size=v1:=by
  rw [he,List.append_assoc,←CR,List.drop_left,←vS,List.take_left]
 rw [this]
 exact ⟨vS,eu⟩
theorem DI {key:Nat→Nat} {φ:Ph} {vs:List Value} {x:MV} (h:kS key φ vs x) {ms:List MV} (hx:x= .agg ms):eN key φ (.agg vs.toArray) x:=by
 subst hx
 cases h with
 |agg _ _ h=>exact ⟨vs.toArray,rfl,by simpa using h⟩
section
variable {P:Program} {c:Ctx} {f t ti el:Nat} {fn:Func} {r:Nat→Nat} {o:Nat→Oper} {E:TI} {n cp g0 g:Nat} {ad:Option Addr} {ob:Option Nat} {w:World} {lb:Array Value} {S:Type} {Inv:S→(Nat→Prop)→Ph→World→Prop} {step:S→MV→Option (Bool×S)}
theorem SN (hf:SM P f t ti el fn r o) (hp:um P c g lb Inv step) (hT:kn P c.ti) (hE:c.tv el=some E) (dM:E.st=true) {xs:List MV} {cells:List Value} {cW:Array Value} {T:TypeId} {φ0:Ph} {Z0:Nat→Prop} {s0 s':S} {ys:List MV}
 (Dw: ∀x∈xs,∃ms,x= .agg ms) (Jq:0<xs.length→ad=some ⟨g0,0,none⟩∧ob=some g0∧w.heap[g0]? =some (.cells cW T (0,0))∧cW.toList.take (xs.length *E.size)=cells) (Qv: ∀b,ob=some b→ ¬Z0 b∧b<w.heap.size∧ ∀off,φ0 b off=none)
 (iA:aW c.key φ0 E.size cells xs) (acd:xs.length<2^63) (hinv:Inv s0 Z0 φ0 w) (ki: ∀b,w.heap.size≤b→Z0 b) (iZ:yC φ0 w) (hd:lF step s0 xs=some (ys,s')):
 Calls P f #[.slice ad xs.length cp,.func (.func g) #[] lb] w fun e W=> ∃Z φ,(∀b,ob=some b→W.heap[b]? =w.heap[b]?)∧
  ((e= .returned (.int .i64 (-1))∧ys=xs∧xC c ob Inv Z0 φ0 w s' Z φ W)∨
   ∃k,∃hk:k<xs.length,∃sk,e= .returned (.int .i64 (k:Int))∧lF step s0 (xs.take (k+1))=some (xs.take k,sk)∧xC c ob Inv Z0 φ0 w sk Z φ W):=by
 obtain ⟨mN,nK⟩:=bE hE
 obtain ⟨ie,z,ny,sw,OC,Vt,IW⟩:=nN (hT _ E mN) nK
 refine calls_of_wp hf.pos hf.body ?_
 rw [hf.tmps]
 generalize Ka:(fun (e:Ending) (W:World)=> ∃Z φ,(∀b,ob=some b→W.heap[b]? =w.heap[b]?)∧
  ((e= .returned (.int .i64 (-1))∧ys=xs∧xC c ob Inv Z0 φ0 w s' Z φ W)∨
   ∃k,∃hk:k<xs.length,∃sk,e= .returned (.int .i64 (k:Int))∧lF step s0 (xs.take (k+1))=some (xs.take k,sk)∧xC c ob Inv Z0 φ0 w sk Z φ W))=Za
 have key: ∀a:Act,Tm a 19 (wc (wc (fun _=>undef) 0 (.slice ad xs.length cp)) 1 (.func (.func g) #[] lb))→(Ie r o).wp P (bodyPost P fn Za) a w:=by
  intro a aA
  unfold Ie
  refine wp_seq (wp_region ?_)
  rw [show List.range (#[o 0]:Array Oper).size=[0] from rfl]
  refine aA.step (v:= .int .i64 0) rfl hf.ops.h0 (by decide) (cy hf.ops.h0 _) (fun a aA=> ?_)
  refine wp_seq (wp_seq (wp_region ?_))
  rw [show List.range (#[o 1,o 2,o 3]:Array Oper).size=[0,1,2] from rfl]
  refine aA.step (v:= .slice ad xs.length cp) rfl hf.ops.h1 (by decide) (aI hf.ops.h1 _) (fun a aA=> ?_)
  refine aA.step (v:= .int .i64 ((xs.length:Nat):Int)) rfl hf.ops.h2 (by decide) (lY hf.ops.h2 hf.tM rfl _) (fun a aA=> ?_)
  refine aA.step (v:= .int .i64 0) rfl hf.ops.h3 (by decide) (aI hf.ops.h3 _) (fun a aA=> ?_)
  refine wp_block (wp_loop (fun a W=> ∃σ,Tm a 19 σ∧σ 0= .slice ad xs.length cp∧σ 1= .func (.func g) #[] lb∧σ 7= .int .i64 ((xs.length:Nat):Int)∧ ∃k:Nat,k≤xs.length∧σ 8= .int .i64 (k:Int)∧
   (∀b,ob=some b→W.heap[b]? =w.heap[b]?)∧ ∃s Z φ,lF step s0 (xs.take k)=some (xs.take k,s)∧xC c ob Inv Z0 φ0 w s Z φ W)
   (fun a W=>match a.tmps.getD 8 undef with| .int _ k=>xs.length-k.toNat|_=>0) ?_ ?_)
  ·refine ⟨_,aA,rfl,rfl,rfl,0,Nat.zero_le _,rfl,fun _ _=>rfl,s0,Z0,φ0,rfl,⟨hinv,ki,fun b hb=> .inl hb,iZ,.refl _ _ _,fun b off hb=>(Qv b hb).2.2 off⟩⟩
  ·clear aA
   rintro a W ⟨σ,aA,h0,h1,h7,k,hk,h8,zu,s,Z,φ,XA,hW⟩
   refine wp_seq (wp_region ?_)
   rw [show List.range (#[o 4]:Array Oper).size=[0] from rfl]
   have hm8:(match a.tmps.getD 8 undef with| .int _ k=>xs.length-k.toNat|_=>0)=xs.length-k:=by rw [aA.get 8,h8];simp
   rw [hm8]
   clear hm8
   refine aA.step (v:= .bool (decide ((k:Int)<(xs.length:Int)))) rfl hf.ops.h4 (by decide) (J8 hf.ops.h4 h8 h7 _) (fun a aA=> ?_)
   refine wp_seq ?_
   by_cases cz:k<xs.length
   rotate_left
   ·refine aA.cond (b:=false) (by show Value.bool (decide ((k:Int)<(xs.length:Int)))=_;rw [decide_eq_false (by omega)]) ?_
    simp only [Bool.false_eq_true,if_false]
    refine wp_exit ?_
    have hkn:k=xs.length:=by omega
    subst hkn
    rw [List.take_length] at XA
    rw [hd] at XA
    simp only [Option.some.injEq,Prod.mk.injEq] at XA
    obtain ⟨rfl,rfl⟩:=XA
    show Exit.then _ _ _ _ _
    refine wp_seq (wp_region ?_)
    rw [show List.range (#[o 17]:Array Oper).size=[0] from rfl]
    refine aA.step (v:= .int .i64 (-1)) rfl hf.ops.Sv (by decide) (cy hf.ops.Sv _) (fun a aA=> ?_)
    refine wp_ret ?_
    refine Ig hf.res aA (v:= .int .i64 (-1)) rfl ?_
    rw [←Ka]
    exact ⟨Z,φ,zu,.inl ⟨rfl,rfl,hW⟩⟩
   ·refine aA.cond (b:=true) (by show Value.bool (decide ((k:Int)<(xs.length:Int)))=_;rw [decide_eq_true (by omega)]) ?_
    simp only [if_true]
    refine wp_skip ?_
    obtain ⟨Zd,OT,cF,bh⟩:=Jq (by omega)
    have h0':=h0
    rw [Zd] at h0'
    obtain ⟨yk,sk,b,Vl,e1,e2,e3⟩:=NF hd cz
    rw [XA] at e1
    simp only [Option.some.injEq,Prod.mk.injEq] at e1
    obtain ⟨rfl,rfl⟩:=e1
    have SO:=iA.mono hW.tr.ph
    obtain ⟨hl,eu⟩:=J9 SO cz
    have Ze:W.rangeAt g0 (k *E.size) ((cells.drop (k *E.size)).take E.size):=by
     intro j v hj
     have Fa:j<E.size:=by have:=(List.getElem?_eq_some_iff.1 hj).1;omega
     have hW0:W.heap[g0]? =some (.cells cW T (0,0)):=(zu g0 OT).trans cF
     rw [cell_of hW0,←Array.getElem?_toList]
     rw [List.getElem?_take_of_lt Fa,List.getElem?_drop,←bh,List.getElem?_take] at hj
     split at hj
     ·exact hj
     ·cases hj
    obtain ⟨ms,Jz⟩:=Dw _ (List.getElem_mem cz)
    have L6:eN c.key φ (.agg ((cells.drop (k *E.size)).take E.size).toArray) xs[k]:=DI eu Jz
    refine wp_seq (wp_block ?_)
    refine wp_seq (wp_region ?_)
    rw [show List.range (#[o 5,o 6]:Array Oper).size=[0,1] from rfl]
    refine aA.step (v:= .int .i64 (k:Int)) rfl hf.ops.h5 (by decide) ((aI hf.ops.h5 _).trans (by show Result.ok (Next.value (σ 8)) W=_;rw [h8])) (fun a aA=> ?_)
    refine aA.step (v:= .int .i64 (k:Int)) rfl hf.ops.h6 (by decide) (cy hf.ops.h6 _) (fun a aA=> ?_)
    refine wp_seq (wp_region ?_)
    rw [show List.range (#[o 7,o 8,o 9,o 10,o 11,o 12]:Array Oper).size=[0,1,2,3,4,5] from rfl]
    refine aA.step (v:= .func (.func g) #[] lb) rfl hf.ops.h7 (by decide) ((aI hf.ops.h7 _).trans (by show Result.ok (Next.value (σ 1)) W=_;rw [h1])) (fun a aA=> ?_)
    refine aA.step (v:= .slice (some ⟨g0,0,none⟩) xs.length cp) rfl hf.ops.h8 (by decide) ((aI hf.ops.h8 _).trans (by show Result.ok (Next.value (σ 0)) W=_;rw [h0'])) (fun a aA=> ?_)
    refine aA.step (v:= .int .i64 (k:Int)) rfl hf.ops.h9 (by decide) (aI hf.ops.h9 _) (fun a aA=> ?_)
    refine aA.step rfl hf.ops.Nz (by decide) (Ic hf.ops.Nz hf.tM ny sw rfl rfl cz _) (fun a aA=> ?_)
    refine aA.step rfl hf.ops.L8 (by decide) (Cw hf.ops.L8 (hT _ E mN) nK dM hl rfl Ze) (fun a aA=> ?_)
    refine aA.call rfl hf.ops.L9 (by decide) (NV hf.ops.L9 rfl rfl _) (hp.call hW.inv hW.new hW.nx L6 e2) ?_
    rintro v W2 a ⟨rfl,φ',t1,t2,t3⟩ aA
    have Uf: ∀b,ob=some b→ ¬Z b:=fun b hb hz=>by
     have:=Qv b hb
     rcases hW.sub _ hz with h|h
     ·exact this.1 h
     ·omega
    have Nh: ∀b,ob=some b→W2.heap[b]? =w.heap[b]? :=fun b hb=>(t1.heap b (Uf b hb) (Nat.lt_of_lt_of_le (Qv b hb).2.1 hW.tr.size)).trans (zu b hb)
    have Pf:xC c ob Inv Z0 φ0 w Vl Z φ' W2:=⟨t3,fun b hb=>hW.new b (Nat.le_trans t1.size hb),hW.sub,t2,hW.tr.trans (t1.sup fun b hb=> .inl (hW.sub b hb)),fun b off hb=>by rw [t1.free b off (Uf b hb)];exact hW.free b off hb⟩
    cases b with
    |true=>
     refine aA.cond (b:=true) rfl ?_
     simp only [if_true]
     refine wp_seq (wp_region ?_)
     rw [show List.range (#[o 13,o 14]:Array Oper).size=[0,1] from rfl]
     refine aA.step (v:= .int .i64 (k:Int)) rfl hf.ops.Ma (by decide) (aI hf.ops.Ma _) (fun a aA=> ?_)
     refine aA.step (v:= .int .i64 (k:Int)) rfl hf.ops.Mb (by decide) (cy hf.ops.Mb _) (fun a aA=> ?_)
     refine wp_ret ?_
     refine Ig hf.res aA (v:= .int .i64 (k:Int)) rfl ?_
     rw [←Ka]
     exact ⟨Z,φ',Nh,.inr ⟨k,cz,Vl,rfl,e3,Pf⟩⟩
    |false=>
     refine aA.cond (b:=false) rfl ?_
     simp only [Bool.false_eq_true,if_false]
     refine wp_skip ?_
     show Code.wp P (Code.region (r 6) #[o 15,o 16] false) _ a W2
     refine wp_region ?_
     rw [show List.range (#[o 15,o 16]:Array Oper).size=[0,1] from rfl]
     refine aA.step (v:= .int .i64 ((k+1:Nat):Int)) rfl hf.ops.Mc (by decide) (jF (q:=1) hf.ops.Mc h8 rfl (by omega) _) (fun a aA=> ?_)
     refine aA.step (v:= .int .i64 ((k+1:Nat):Int)) rfl hf.ops.Md (by decide) (aI hf.ops.Md _) (fun a aA=> ?_)
     refine ⟨⟨_,aA,h0,h1,h7,k+1,by omega,rfl,Nh,Vl,Z,φ',?_,Pf⟩,?_⟩
     ·rw [e3]
      have e4:xs.take (k+1)=xs.take k++[xs[k]]:=by rw [List.take_add_one,List.getElem?_eq_getElem cz];rfl
      rw [e4];rfl
     ·have:a.tmps.getD 8 undef= .int .i64 ((k+1:Nat):Int):=by rw [aA.get 8];rfl
      rw [this]
      simp
      omega
 exact key _ (tm2 _ _ 17)
end
end Dn
/-
  slices.DeleteFunc of the library, walked, with whatever function. Conditions: none.
-/
set_option linter.unusedSimpArgs false
set_option linter.unusedVariables false
namespace Dn
open Go
theorem wk {P:Program} {f:Nat} {fn:Func} {b:Code} {args:Array Value} {w:World} {R:Value→World→Prop} (dZ:P.funcs[f]? =some fn) (zp:(fn.name== "runtime.NumGoroutine")=false) (oJ:fn.body=some b)
 (h:Calls P f args w fun e W=> ∃v,e= .returned v∧R v W):fe P f args w R:=by
 have bJ:(callFunc f args).run P w= .ok (.enter f args) w:=by
  have CP: ¬fn.name= "runtime.NumGoroutine" :=by simpa using zp
  simp [callFunc,dZ,CP,oJ]
 unfold fe
 rw [bJ]
 exact h
def DJ (r:Nat→Nat) (o:Nat→Oper):Code:=
 .seq (.region (r 0) #[o 0] false) (.seq (.region (r 1) #[o 1,o 2,o 3,o 4] false) (.seq (.seq (.region (r 2) #[o 5,o 6] false) (.cond (.tmp 12) (.seq (.region (r 3) #[o 7,o 8] false) .ret) .skip)) (.seq (.seq (.region (r 4) #[o 9,o 10,o 11] false) (.block 0 (.loop (.seq (.seq (.region (r 5) #[o 12,o 13,o 14,o 15] false) (.cond (.tmp 19) .skip (.exit 0))) (.seq (.block 1 (.seq (.region (r 6) #[o 16,o 17,o 18,o 19,o 20,o 21] false) (.seq (.region (r 7) #[o 22,o 23,o 24,o 25] false) (.cond (.tmp 29) (.seq (.region (r 8) #[o 26,o 27,o 28,o 29,o 30] false) (.region (r 9) #[o 31,o 32,o 33] false)) .skip)))) (.region (r 10) #[o 34,o 35,o 36] false)))))) (.seq (.region (r 11) #[o 37,o 38,o 39,o 40] false) (.seq (.region (r 12) #[o 41,o 42,o 43,o 44] false) .ret)))))
structure VH (t el ti tb fu fi:Nat) (o:Nat→Oper):Prop where
 h0:aJ (o 0) 4 (.assign (.const (.slice none 0 0)))
 h1:aJ (o 1) 8 (.move (.tmp 0))
 h2:aJ (o 2) 9 (.move (.tmp 1))
 h3:aJ (o 3) 10 (.call {callee:= .value (.func fi),args:= #[.tmp 8,.tmp 9],argTypes:= #[t,fu]})
 h4:aJ (o 4) 5 (.assign (.tmp 10))
 h5:aJ (o 5) 11 (.move (.tmp 5))
 h6:aJ (o 6) 12 (.binOp .eql ti (.tmp 11) (.const (.int .i64 (-1))) ti)
 h7:aJ (o 7) 13 (.move (.tmp 0))
 h8:aJ (o 8) 4 (.assign (.tmp 13))
 h9:aJ (o 9) 14 (.move (.tmp 5))
 Nz:aJ (o 10) 15 (.binOp .add ti (.tmp 14) (.const (.int .i64 1)) ti)
 L8:aJ (o 11) 6 (.assign (.tmp 15))
 L9:aJ (o 12) 16 (.move (.tmp 6))
 Ma:aJ (o 13) 17 (.move (.tmp 0))
 Mb:aJ (o 14) 18 (.call {callee:= .builtin .len,args:= #[.tmp 17],argTypes:= #[t]})
 Mc:aJ (o 15) 19 (.binOp .lss ti (.tmp 16) (.tmp 18) ti)
 Md:aJ (o 16) 22 (.move (.tmp 0))
 Sv:aJ (o 17) 23 (.move (.tmp 6))
 Xp:aJ (o 18) 24 (.indexAddr t (.tmp 22) (.tmp 23))
 Xq:aJ (o 19) 25 (.load el (.tmp 24))
 Xr:aJ (o 20) 7 (.alloc el)
 Uh:BA (o 21) (.store el (.tmp 7) (.tmp 25))
 Ui:aJ (o 22) 26 (.move (.tmp 1))
 Uj:aJ (o 23) 27 (.load el (.tmp 7))
 Uk:aJ (o 24) 28 (.call {callee:= .value (.tmp 26),args:= #[.tmp 27],argTypes:= #[el]})
 Ul:aJ (o 25) 29 (.unOp .not tb (.tmp 28))
 Um:aJ (o 26) 30 (.move (.tmp 0))
 Xs:aJ (o 27) 31 (.move (.tmp 5))
 Xt:aJ (o 28) 32 (.load el (.tmp 7))
 Xu:aJ (o 29) 33 (.indexAddr t (.tmp 30) (.tmp 31))
 Sw:BA (o 30) (.store el (.tmp 33) (.tmp 32))
 h31:aJ (o 31) 34 (.move (.tmp 5))
 h32:aJ (o 32) 35 (.binOp .add ti (.tmp 34) (.const (.int .i64 1)) ti)
 h33:aJ (o 33) 5 (.assign (.tmp 35))
 Y0:aJ (o 34) 20 (.move (.tmp 6))
 Y1:aJ (o 35) 21 (.binOp .add ti (.tmp 20) (.const (.int .i64 1)) ti)
 Y2:aJ (o 36) 6 (.assign (.tmp 21))
 h37:aJ (o 37) 36 (.move (.tmp 0))
 h38:aJ (o 38) 37 (.move (.tmp 5))
 h39:aJ (o 39) 38 (.slice t (.tmp 36) (some (.tmp 37)) none none)
 h40:BA (o 40) (.call {callee:= .builtin .clear,args:= #[.tmp 38],argTypes:= #[t]})
 h41:aJ (o 41) 39 (.move (.tmp 0))
 h42:aJ (o 42) 40 (.move (.tmp 5))
 h43:aJ (o 43) 41 (.slice t (.tmp 39) none (some (.tmp 40)) none)
 h44:aJ (o 44) 4 (.assign (.tmp 41))
structure SP (P:Program) (f t ti tb fu fi el:Nat) (fn:Func) (r:Nat→Nat) (o:Nat→Oper):Prop where
 pos:P.funcs[f]? =some fn
 name:(fn.name== "runtime.NumGoroutine")=false
 tmps:fn.ntmps=42
 res:fn.results= #[.tmp 4]
 body:fn.body=some (DJ r o)
 ops:VH t el ti tb fu fi o
 tM:P.underlying t=some (.slice el)
section
variable {P:Program} {c:Ctx} {f fi t ti tb fu el:Nat} {fn fni:Func} {r ri:Nat→Nat} {o oi:Nat→Oper} {E:TI} {cp g0 g:Nat} {ad:Option Addr} {ob:Option Nat} {w W W2:World} {lb:Array Value} {S:Type} {Inv:S→(Nat→Prop)→Ph→World→Prop} {step:S→MV→Option (Bool×S)} {Z0 Z:Nat→Prop} {φ0 φ:Ph} {s:S}
theorem xC.move (hp:um P c g lb Inv step) (hW:xC c ob Inv Z0 φ0 w s Z φ W) (qk:W.heap.size≤W2.heap.size) (sX: ∀b,b<W.heap.size→ob≠some b→W2.heap[b]? =W.heap[b]?) (yf:Rest W W2) (Uf: ∀b,ob=some b→ ¬Z b):
 xC c ob Inv Z0 φ0 w s (fun b=>(Z b∧b<W.heap.size)∨W2.heap.size≤b) φ W2:=by
 have hws:=hW.tr.size
 refine ⟨hp.mono (hp.frame hW.inv qk fun b hz hb=>sX b hb (fun e=>Uf b e hz)) fun b hb=> .inl hb,fun b hb=> .inr hb,fun b hb=> ?_,fun b off v hv=> ?_,?_,hW.free⟩
 ·rcases hb with hb|hb
  ·exact hW.sub b hb.1
  ·exact .inr (by omega)
 ·have h1:=hW.nx b off v hv
  have cz:=World.block_lt_of_cell? W _ h1
  have cI:ob≠some b:=by intro e;rw [hW.free b off e] at hv;cases hv
  rw [World.cell?_of_block (sX b cz cI)]
  exact h1
 ·refine hW.tr.trans ⟨.refl _,fun b hb cz=> ?_,fun _ _ _=>rfl,qk,yf⟩
  exact sX b cz (fun e=>hb (.inr e))
structure ace (c:Ctx) (sz n cp:Nat) (cells:List Value) (cW:Array Value) (φ:Ph) (i j:Nat) (ys:List MV):Prop where
 size:cW.size=cp *sz
 done:aW c.key φ sz (cW.toList.take (i *sz)) ys
 len:ys.length=i
 rest:(cW.toList.take (n *sz)).drop (j *sz)=cells.drop (j *sz)
def VI (c:Ctx) (ob:Option Nat) {S:Type} (Inv:S→(Nat→Prop)→Ph→World→Prop) (step:S→MV→Option (Bool×S)) (Z0:Nat→Prop) (φ0:Ph) (w:World) (xs ys:List MV) (s0 s':S) (v:Value) (W:World):Prop:=
 ∃Z φ,(∀b,ob=some b→W.heap[b]? =w.heap[b]?)∧((v= .int .i64 (-1)∧ys=xs∧xC c ob Inv Z0 φ0 w s' Z φ W)∨
  ∃k,∃hk:k<xs.length,∃sk,v= .int .i64 (k:Int)∧lF step s0 (xs.take (k+1))=some (xs.take k,sk)∧xC c ob Inv Z0 φ0 w sk Z φ W)
theorem Kb (hf:SP P f t ti tb fu fi el fn r o) (Ry:SM P fi t ti el fni ri oi) (hp:um P c g lb Inv step) (hT:kn P c.ti) (hE:c.tv el=some E) (dM:E.st=true) (dZ:0<E.size) {xs:List MV} {cells:List Value} {cW:Array Value} {s0 s':S} {ys:List MV}
 (Dw: ∀x∈xs,∃ms,x= .agg ms) (Jq:0<xs.length→ad=some ⟨g0,0,none⟩∧ob=some g0∧w.heap[g0]? =some (.cells cW el (0,0))∧cW.toList.take (xs.length *E.size)=cells∧xs.length≤cp∧cW.size=cp *E.size) (Qv: ∀b,ob=some b→ ¬Z0 b∧b<w.heap.size∧ ∀off,φ0 b off=none)
 (iA:aW c.key φ0 E.size cells xs) (acd:xs.length<2^63) (hinv:Inv s0 Z0 φ0 w) (ki: ∀b,w.heap.size≤b→Z0 b) (iZ:yC φ0 w) (hd:lF step s0 xs=some (ys,s')):
 Calls P f #[.slice ad xs.length cp,.func (.func g) #[] lb] w fun e W=> ∃v,e= .returned v∧ ∃Z φ,xC c ob Inv Z0 φ0 w s' Z φ W∧
  ((v= .slice ad xs.length cp∧ys=xs∧ ∀b,ob=some b→W.heap[b]? =w.heap[b]?)∨
   (0<xs.length∧v= .slice (some ⟨g0,0,none⟩) ys.length cp∧ ∃lB,W.heap[g0]? =some (.cells lB el (0,0))∧lB.size=cp *E.size∧aW c.key φ E.size (lB.toList.take (ys.length *E.size)) ys)):=by
 obtain ⟨mN,nK⟩:=bE hE
 obtain ⟨ie,z,ny,sw,OC,Vt,IW⟩:=nN (hT _ E mN) nK
 obtain ⟨ie2,z2,SE,Q2,hzr⟩:=yF hE hT
 rw [ny] at SE
 cases SE
 rw [Vt] at Q2
 cases Q2
 have hz1: ∀v∈z.cells.toList,v.oneCell'=true:=(hzr (nO c.key fun _ _=>none)).cells
 have acf:fe P fi #[.slice ad xs.length cp,.func (.func g) #[] lb] w (VI c ob Inv step Z0 φ0 w xs ys s0 s'):=by
  refine wk Ry.pos Ry.name Ry.body ((SN Ry hp hT hE dM Dw (fun h=>⟨(Jq h).1,(Jq h).2.1,(Jq h).2.2.1,(Jq h).2.2.2.1⟩) Qv iA acd hinv ki iZ hd).mono ?_)
  rintro e W ⟨Z,φ,h1,h2⟩
  rcases h2 with ⟨rfl,h3,h4⟩|⟨k,hk,sk,rfl,h3,h4⟩
  ·exact ⟨_,rfl,Z,φ,h1,.inl ⟨rfl,h3,h4⟩⟩
  ·exact ⟨_,rfl,Z,φ,h1,.inr ⟨k,hk,sk,rfl,h3,h4⟩⟩
 refine calls_of_wp hf.pos hf.body ?_
 rw [hf.tmps]
 generalize Ka:(fun (e:Ending) (W:World)=> ∃v,e= .returned v∧ ∃Z φ,xC c ob Inv Z0 φ0 w s' Z φ W∧
  ((v= .slice ad xs.length cp∧ys=xs∧ ∀b,ob=some b→W.heap[b]? =w.heap[b]?)∨
   (0<xs.length∧v= .slice (some ⟨g0,0,none⟩) ys.length cp∧ ∃lB,W.heap[g0]? =some (.cells lB el (0,0))∧lB.size=cp *E.size∧aW c.key φ E.size (lB.toList.take (ys.length *E.size)) ys)))=Za
 have key: ∀a:Act,Tm a 42 (wc (wc (fun _=>undef) 0 (.slice ad xs.length cp)) 1 (.func (.func g) #[] lb))→(DJ r o).wp P (bodyPost P fn Za) a w:=by
  intro a aA
  unfold DJ
  refine wp_seq (wp_region ?_)
  rw [show List.range (#[o 0]:Array Oper).size=[0] from rfl]
  refine aA.step (v:= .slice none 0 0) rfl hf.ops.h0 (by decide) (cy hf.ops.h0 _) (fun a aA=> ?_)
  refine wp_seq (wp_region ?_)
  rw [show List.range (#[o 1,o 2,o 3,o 4]:Array Oper).size=[0,1,2,3] from rfl]
  refine aA.step (v:= .slice ad xs.length cp) rfl hf.ops.h1 (by decide) (aI hf.ops.h1 _) (fun a aA=> ?_)
  refine aA.step (v:= .func (.func g) #[] lb) rfl hf.ops.h2 (by decide) (aI hf.ops.h2 _) (fun a aA=> ?_)
  refine aA.call rfl hf.ops.h3 (by decide) (VG hf.ops.h3 rfl rfl rfl _) acf ?_
  clear acf
  rintro v W1 a1 ⟨Z,φ,zu,v8⟩ acg
  clear aA
  refine acg.step (v:=v) rfl hf.ops.h4 (by decide) (cy hf.ops.h4 _) (fun a2 SA=> ?_)
  clear acg
  refine wp_seq (wp_seq (wp_region ?_))
  rw [show List.range (#[o 5,o 6]:Array Oper).size=[0,1] from rfl]
  refine SA.step (v:=v) rfl hf.ops.h5 (by decide) (aI hf.ops.h5 _) (fun a3 Zf=> ?_)
  clear SA
  rcases v8 with ⟨rfl,rfl,hW⟩|⟨k,hk,sk,rfl,XA,hW⟩
  ·refine Zf.step (v:= .bool (decide ((-1:Int)= -1))) rfl hf.ops.h6 (by decide) (n7 hf.ops.h6 rfl rfl _) (fun a aA=> ?_)
   refine aA.cond (b:=true) (by show Value.bool (decide ((-1:Int)= -1))=_;rfl) ?_
   simp only [if_true]
   refine wp_seq (wp_region ?_)
   rw [show List.range (#[o 7,o 8]:Array Oper).size=[0,1] from rfl]
   refine aA.step (v:= .slice ad ys.length cp) rfl hf.ops.h7 (by decide) (aI hf.ops.h7 _) (fun a aA=> ?_)
   refine aA.step (v:= .slice ad ys.length cp) rfl hf.ops.h8 (by decide) (cy hf.ops.h8 _) (fun a aA=> ?_)
   refine wp_ret ?_
   refine Ig hf.res aA (v:= .slice ad ys.length cp) rfl ?_
   rw [←Ka]
   exact ⟨_,rfl,Z,φ,hW,.inl ⟨rfl,rfl,zu⟩⟩
  ·refine Zf.step (v:= .bool (decide ((k:Int)= -1))) rfl hf.ops.h6 (by decide) (n7 hf.ops.h6 rfl rfl _) (fun a aA=> ?_)
   refine aA.cond (b:=false) (by show Value.bool (decide ((k:Int)= -1))=_;rw [decide_eq_false (by omega)]) ?_
   simp only [Bool.false_eq_true,if_false]
   refine wp_skip ?_
   refine wp_seq (wp_seq (wp_region ?_))
   rw [show List.range (#[o 9,o 10,o 11]:Array Oper).size=[0,1,2] from rfl]
   refine aA.step (v:= .int .i64 (k:Int)) rfl hf.ops.h9 (by decide) (aI hf.ops.h9 _) (fun a aA=> ?_)
   refine aA.step (v:= .int .i64 ((k+1:Nat):Int)) rfl hf.ops.Nz (by decide) (jF (q:=1) hf.ops.Nz rfl rfl (by omega) _) (fun a aA=> ?_)
   refine aA.step (v:= .int .i64 ((k+1:Nat):Int)) rfl hf.ops.L8 (by decide) (cy hf.ops.L8 _) (fun a4 ach=> ?_)
   clear Zf aA
   obtain ⟨Zd,OT,cF,bh,aci,afZ⟩:=Jq (by omega)
   have IY:=Qv g0 OT
   have acj: ∀b,ob=some b→b=g0:=fun b hb=>by rw [OT] at hb;exact (Option.some.inj hb).symm
   have hmul: ∀{a b:Nat},a≤b→a *E.size≤b *E.size:=fun h=>Nat.mul_le_mul_right _ h
   refine wp_block (wp_loop (fun a W=> ∃σ,Tm a 42 σ∧σ 0= .slice (some ⟨g0,0,none⟩) xs.length cp∧σ 1= .func (.func g) #[] lb∧ ∃i j:Nat,i<j∧j≤xs.length∧σ 5= .int .i64 (i:Int)∧σ 6= .int .i64 (j:Int)∧
    ∃lB sj Z φ yj,W.heap[g0]? =some (.cells lB el (0,0))∧lF step s0 (xs.take j)=some (yj,sj)∧xC c ob Inv Z0 φ0 w sj Z φ W∧ace c E.size xs.length cp cells lB φ i j yj)
    (fun a W=>match a.tmps.getD 6 undef with| .int _ k=>xs.length-k.toNat|_=>0) ?_ ?_)
   ·refine ⟨_,ach,by show Value.slice ad xs.length cp=_;rw [Zd],rfl,k,k+1,by omega,by omega,rfl,rfl,cW,sk,Z,φ,xs.take k,(zu g0 OT).trans cF,XA,hW,⟨afZ,?_,by rw [List.length_take];omega,by rw [bh]⟩⟩
    have h1:=(iA.mono hW.tr.ph).take k
    rw [←bh,List.take_take] at h1
    have h2:Nat.min (k *E.size) (xs.length *E.size)=k *E.size:=Nat.min_eq_left (hmul (by omega))
    rw [show min (k *E.size) (xs.length *E.size)=k *E.size from h2] at h1
    exact h1
   ·clear zu XA hW ach cF
    rintro a W ⟨σ,aA,h0,h1,i,j,Na,hjn,h5,h6,lB,sj,Z',φ',yj,zu,hdj,hW,hR⟩
    have hm6:(match a.tmps.getD 6 undef with| .int _ k=>xs.length-k.toNat|_=>0)=xs.length-j:=by rw [aA.get 6,h6];simp
    rw [hm6]
    clear hm6
    have Uf: ∀b,ob=some b→ ¬Z' b:=fun b hb hz=>by
     have:=acj b hb
     subst this
     rcases hW.sub _ hz with h|h
     ·exact IY.1 h
     ·have:=IY.2.1;omega
    refine wp_seq (wp_seq (wp_region ?_))
    rw [show List.range (#[o 12,o 13,o 14,o 15]:Array Oper).size=[0,1,2,3] from rfl]
    refine aA.step (v:= .int .i64 (j:Int)) rfl hf.ops.L9 (by decide) ((aI hf.ops.L9 _).trans (by show Result.ok (Next.value (σ 6)) W=_;rw [h6])) (fun a aA=> ?_)
    refine aA.step (v:= .slice (some ⟨g0,0,none⟩) xs.length cp) rfl hf.ops.Ma (by decide) ((aI hf.ops.Ma _).trans (by show Result.ok (Next.value (σ 0)) W=_;rw [h0])) (fun a aA=> ?_)
    refine aA.step (v:= .int .i64 ((xs.length:Nat):Int)) rfl hf.ops.Mb (by decide) (lY hf.ops.Mb hf.tM rfl _) (fun a aA=> ?_)
    refine aA.step (v:= .bool (decide ((j:Int)<(xs.length:Int)))) rfl hf.ops.Mc (by decide) (J8 hf.ops.Mc rfl rfl _) (fun a aA=> ?_)
    by_cases cz:j<xs.length
    rotate_left
    ·
     refine aA.cond (b:=false) (by show Value.bool (decide ((j:Int)<(xs.length:Int)))=_;rw [decide_eq_false (by omega)]) ?_
     simp only [Bool.false_eq_true,if_false]
     refine wp_exit ?_
     have af0:j=xs.length:=by omega
     subst af0
     rw [List.take_length,hd] at hdj
     simp only [Option.some.injEq,Prod.mk.injEq] at hdj
     obtain ⟨rfl,rfl⟩:=hdj
     have hlen:=hR.len
     have qk:=hR.size
     have vV:i *E.size+(xs.length-i) *E.size≤lB.size:=by
      rw [←Nat.add_mul,qk];exact hmul (by omega)
     have s4:i *E.size≤xs.length *E.size:=hmul (by omega)
     have Gn:xs.length *E.size≤cp *E.size:=hmul aci
     obtain ⟨zs,hzl,ack⟩:=wh (P:=P) (w:=W) (t:=t) (ty:=(o 40).type) (g:=g0) (off:=i *E.size) (n:=xs.length-i) (c:=cp-i) hf.tM ny Vt IW hz1 zu (by omega) vV
     have Ua:g0<W.heap.size:=Nat.lt_of_lt_of_le IY.2.1 hW.tr.size
     obtain ⟨W3,XB⟩: ∃W3,W3=W.setRow g0 (lB.toList.take (i *E.size)++zs++lB.toList.drop (i *E.size+zs.length)).toArray:=⟨_,rfl⟩
     rw [←XB] at ack
     have yg:=hW.move hp (W2:=W3) (by rw [XB];simp [World.setRow]) (fun b _ cI=>by rw [XB];exact setRow_other _ _ _ _ (fun e=>cI (by rw [OT,e]))) (by rw [XB];exact .setRow _ _ _) Uf
     show Code.wp P (Code.seq _ _) _ a W
     refine wp_seq (wp_region ?_)
     rw [show List.range (#[o 37,o 38,o 39,o 40]:Array Oper).size=[0,1,2,3] from rfl]
     refine aA.step (v:= .slice (some ⟨g0,0,none⟩) xs.length cp) rfl hf.ops.h37 (by decide) ((aI hf.ops.h37 _).trans (by show Result.ok (Next.value (σ 0)) W=_;rw [h0])) (fun a aA=> ?_)
     refine aA.step (v:= .int .i64 (i:Int)) rfl hf.ops.h38 (by decide) ((aI hf.ops.h38 _).trans (by show Result.ok (Next.value (σ 5)) W=_;rw [h5])) (fun a aA=> ?_)
     refine aA.step rfl hf.ops.h39 (by decide) (mK hf.ops.h39 hf.tM ny sw rfl rfl (by omega) (by omega) _) (fun a aA=> ?_)
     refine aA.Xx (v:= .tuple #[]) rfl hf.ops.h40 (NO hf.ops.h40 rfl ack) ?_
     refine wp_seq (wp_region ?_)
     rw [show List.range (#[o 41,o 42,o 43,o 44]:Array Oper).size=[0,1,2,3] from rfl]
     refine aA.step (v:= .slice (some ⟨g0,0,none⟩) xs.length cp) rfl hf.ops.h41 (by decide) ((aI hf.ops.h41 _).trans (by show Result.ok (Next.value (σ 0)) W3=_;rw [h0])) (fun a aA=> ?_)
     refine aA.step (v:= .int .i64 (i:Int)) rfl hf.ops.h42 (by decide) ((aI hf.ops.h42 _).trans (by show Result.ok (Next.value (σ 5)) W3=_;rw [h5])) (fun a aA=> ?_)
     refine aA.step (v:= .slice (some ⟨g0,0,none⟩) i cp) rfl hf.ops.h43 (by decide) (zx hf.ops.h43 hf.tM ny sw rfl rfl (by omega) _) (fun a aA=> ?_)
     refine aA.step (v:= .slice (some ⟨g0,0,none⟩) i cp) rfl hf.ops.h44 (by decide) (cy hf.ops.h44 _) (fun a aA=> ?_)
     refine wp_ret ?_
     refine Ig hf.res aA (v:= .slice (some ⟨g0,0,none⟩) i cp) rfl ?_
     rw [←Ka]
     have nM:lB.toList.length=cp *E.size:=by rw [Array.length_toList,qk]
     refine ⟨_,rfl,_,φ',yg,.inr ⟨by omega,by rw [hlen],_,by rw [XB];exact td _ zu,?_,?_⟩⟩
     ·simp only [List.size_toArray,List.length_append,List.length_take,List.length_drop,nM,hzl]
      have:(xs.length-i) *E.size+i *E.size=xs.length *E.size:=by rw [←Nat.add_mul];congr 1;omega
      omega
     ·rw [hlen,List.append_assoc,List.take_append_of_le_length (by rw [List.length_take,nM];omega),List.take_take,Nat.min_self]
      exact hR.done
    ·refine aA.cond (b:=true) (by show Value.bool (decide ((j:Int)<(xs.length:Int)))=_;rw [decide_eq_true (by omega)]) ?_
     simp only [if_true]
     refine wp_skip ?_
     obtain ⟨yk,Vl,b,sk2,e1,e2,e3⟩:=NF hd cz
     rw [hdj] at e1
     simp only [Option.some.injEq,Prod.mk.injEq] at e1
     obtain ⟨rfl,rfl⟩:=e1
     have SO:=iA.mono hW.tr.ph
     obtain ⟨hl,eu⟩:=J9 SO cz
     obtain ⟨GV,HF⟩: ∃GV,GV=(cells.drop (j *E.size)).take E.size:=⟨_,rfl⟩
     rw [←HF] at hl eu
     have nM:lB.toList.length=cp *E.size:=by rw [Array.length_toList,hR.size]
     have hj1:j *E.size+E.size≤xs.length *E.size:=by rw [←Nat.succ_mul];exact hmul cz
     have Gn:xs.length *E.size≤cp *E.size:=hmul aci
     have sO:i *E.size+E.size≤j *E.size:=by rw [←Nat.succ_mul];exact hmul Na
     have Ze:W.rangeAt g0 (j *E.size) GV:=by
      intro q v hq
      have hql:q<E.size:=by have:=(List.getElem?_eq_some_iff.1 hq).1;omega
      rw [cell_of zu,←Array.getElem?_toList]
      rw [HF,List.getElem?_take_of_lt hql,←hR.rest,List.getElem?_drop,List.getElem?_take_of_lt (by omega)] at hq
      exact hq
     have iB: ∀u∈GV,u.oneCell'=true:=fun u hu=>iA.vX u (by rw [HF] at hu;exact List.mem_of_mem_drop (List.mem_of_mem_take hu))
     obtain ⟨ms,Jz⟩:=Dw _ (List.getElem_mem cz)
     have L6:eN c.key φ' (.agg GV.toArray) xs[j]:=DI eu Jz
     have hsc:(Value.agg GV.toArray).cells.toList=GV:=by simp [Value.cells]
     refine wp_seq (wp_block ?_)
     refine wp_seq (wp_region ?_)
     rw [show List.range (#[o 16,o 17,o 18,o 19,o 20,o 21]:Array Oper).size=[0,1,2,3,4,5] from rfl]
     refine aA.step (v:= .slice (some ⟨g0,0,none⟩) xs.length cp) rfl hf.ops.Md (by decide) ((aI hf.ops.Md _).trans (by show Result.ok (Next.value (σ 0)) W=_;rw [h0])) (fun a aA=> ?_)
     refine aA.step (v:= .int .i64 (j:Int)) rfl hf.ops.Sv (by decide) ((aI hf.ops.Sv _).trans (by show Result.ok (Next.value (σ 6)) W=_;rw [h6])) (fun a aA=> ?_)
     refine aA.step rfl hf.ops.Xp (by decide) (Ic hf.ops.Xp hf.tM ny sw rfl rfl cz _) (fun a aA=> ?_)
     refine aA.step rfl hf.ops.Xq (by decide) (Cw hf.ops.Xq (hT _ E mN) nK dM hl rfl Ze) (fun a aA=> ?_)
     refine aA.step rfl hf.ops.Xr (by decide) (VF hf.ops.Xr ny Vt _) (fun a aA=> ?_)
     have XC:(W.alloc (.cells z.cells el)).heap[W.heap.size]? =some (.cells z.cells el (0,0)):=jW W _
     refine aA.Xz rfl hf.ops.Uh (NU (v:= .agg GV.toArray) (off:=0) hf.ops.Uh (hT _ E mN) nK rfl rfl (by rw [hsc,hl]) (by rw [hsc];exact iB) XC (by rw [IW];omega)) ?_
     rw [hsc]
     obtain ⟨W2,Pf⟩: ∃W2,W2=(W.alloc (.cells z.cells el)).setRow W.heap.size (z.cells.toList.take 0++GV++z.cells.toList.drop (0+E.size)).toArray:=⟨_,rfl⟩
     rw [←Pf]
     have Jk:W2.heap.size=W.heap.size+1:=by rw [Pf,setRow_size];simp
     have hold: ∀b,b<W.heap.size→W2.heap[b]? =W.heap[b]? :=fun b hb=>by
      rw [Pf,setRow_other _ _ _ _ (by omega)]
      exact (dc.alloc W z.cells el).Ae b hb
     have XD:W2.heap[W.heap.size]? =some (.cells GV.toArray el (0,0)):=by
      rw [Pf,td _ XC]
      congr 3
      have:z.cells.toList.drop (0+E.size)=[]:=by rw [Nat.zero_add,List.drop_of_length_le];rw [Array.length_toList,IW];exact Nat.le_refl _
      rw [this];simp
     have Me:Rest W W2:=by rw [Pf];exact (Rest.alloc W z.cells el).trans (.setRow _ _ _)
     have Ua:g0<W.heap.size:=Nat.lt_of_lt_of_le IY.2.1 hW.tr.size
     have yg:=hW.move hp (W2:=W2) (by omega) (fun b hb _=>hold b hb) Me Uf
     have Zg: ∀b,ob=some b→ ¬((Z' b∧b<W.heap.size)∨W2.heap.size≤b):=by
      intro b hb
      have:=acj b hb
      subst this
      rintro (h|h)
      ·exact Uf b hb h.1
      ·omega
     have XE: ∀{W:World} {b:Nat},W.heap[b]? =some (.cells GV.toArray el (0,0))→W.rangeAt b 0 GV:=by
      intro W b hb q v hq
      rw [cell_of hb,Nat.zero_add]
      simpa using hq
     refine wp_seq (wp_region ?_)
     rw [show List.range (#[o 22,o 23,o 24,o 25]:Array Oper).size=[0,1,2,3] from rfl]
     refine aA.step (v:= .func (.func g) #[] lb) rfl hf.ops.Ui (by decide) ((aI hf.ops.Ui _).trans (by show Result.ok (Next.value (σ 1)) W2=_;rw [h1])) (fun a aA=> ?_)
     refine aA.step rfl hf.ops.Uj (by decide) (Cw hf.ops.Uj (hT _ E mN) nK dM hl rfl (XE XD)) (fun a aA=> ?_)
     refine aA.call rfl hf.ops.Uk (by decide) (NV hf.ops.Uk rfl rfl _) (hp.call yg.inv yg.new yg.nx L6 e2) ?_
     rintro v W3 a ⟨rfl,φ3,t1,t2,t3⟩ aA
     have SQ:W3.heap[g0]? =some (.cells lB el (0,0)):=(t1.heap g0 (Zg g0 OT) (by omega)).trans ((hold g0 Ua).trans zu)
     have acm:W3.heap[W.heap.size]? =some (.cells GV.toArray el (0,0)):=(t1.heap _ (by rintro (h|h)<;>omega) (by omega)).trans XD
     have XB:xC c ob Inv Z0 φ0 w sk2 (fun b=>(Z' b∧b<W.heap.size)∨W2.heap.size≤b) φ3 W3:=⟨t3,fun b hb=>yg.new b (Nat.le_trans t1.size hb),yg.sub,t2,yg.tr.trans (t1.sup fun b hb=> .inl (yg.sub b hb)),fun b off hb=>by rw [t1.free b off (Zg b hb)];exact yg.free b off hb⟩
     refine aA.step (v:= .bool (!b)) rfl hf.ops.Ul (by decide) (NK hf.ops.Ul rfl _) (fun a aA=> ?_)
     cases b with
     |true=>
      refine aA.cond (b:=false) rfl ?_
      simp only [Bool.false_eq_true,if_false]
      refine wp_skip ?_
      show Code.wp P (Code.region (r 10) #[o 34,o 35,o 36] false) _ a W3
      refine wp_region ?_
      rw [show List.range (#[o 34,o 35,o 36]:Array Oper).size=[0,1,2] from rfl]
      refine aA.step (v:= .int .i64 (j:Int)) rfl hf.ops.Y0 (by decide) ((aI hf.ops.Y0 _).trans (by show Result.ok (Next.value (σ 6)) W3=_;rw [h6])) (fun a aA=> ?_)
      refine aA.step (v:= .int .i64 ((j+1:Nat):Int)) rfl hf.ops.Y1 (by decide) (jF (q:=1) hf.ops.Y1 rfl rfl (by omega) _) (fun a aA=> ?_)
      refine aA.step (v:= .int .i64 ((j+1:Nat):Int)) rfl hf.ops.Y2 (by decide) (cy hf.ops.Y2 _) (fun a aA=> ?_)
      refine ⟨⟨_,aA,h0,h1,i,j+1,by omega,by omega,h5,rfl,lB,sk2,_,φ3,yj,SQ,by rw [e3];rfl,XB,⟨hR.size,hR.done.mono t1.ph,hR.len,?_⟩⟩,?_⟩
      ·rw [show (j+1) *E.size=j *E.size+E.size from Nat.succ_mul _ _,←List.drop_drop,←List.drop_drop,hR.rest]
      ·have:a.tmps.getD 6 undef= .int .i64 ((j+1:Nat):Int):=by rw [aA.get 6];rfl
       rw [this];simp;omega
     |false=>
      refine aA.cond (b:=true) rfl ?_
      simp only [if_true]
      refine wp_seq (wp_region ?_)
      rw [show List.range (#[o 26,o 27,o 28,o 29,o 30]:Array Oper).size=[0,1,2,3,4] from rfl]
      refine aA.step (v:= .slice (some ⟨g0,0,none⟩) xs.length cp) rfl hf.ops.Um (by decide) ((aI hf.ops.Um _).trans (by show Result.ok (Next.value (σ 0)) W3=_;rw [h0])) (fun a aA=> ?_)
      refine aA.step (v:= .int .i64 (i:Int)) rfl hf.ops.Xs (by decide) ((aI hf.ops.Xs _).trans (by show Result.ok (Next.value (σ 5)) W3=_;rw [h5])) (fun a aA=> ?_)
      refine aA.step rfl hf.ops.Xt (by decide) (Cw hf.ops.Xt (hT _ E mN) nK dM hl rfl (XE acm)) (fun a aA=> ?_)
      refine aA.step rfl hf.ops.Xu (by decide) (Ic hf.ops.Xu hf.tM ny sw rfl rfl (by omega) _) (fun a aA=> ?_)
      refine aA.Xz rfl hf.ops.Sw (NU (v:= .agg GV.toArray) (off:=i *E.size) hf.ops.Sw (hT _ E mN) nK rfl rfl (by rw [hsc,hl]) (by rw [hsc];exact iB) SQ (by rw [hR.size];omega)) ?_
      rw [hsc]
      obtain ⟨W4,hW4⟩: ∃W4,W4=W3.setRow g0 (lB.toList.take (i *E.size)++GV++lB.toList.drop (i *E.size+E.size)).toArray:=⟨_,rfl⟩
      rw [←hW4]
      have Zh:=XB.move hp (W2:=W4) (by rw [hW4,setRow_size];exact Nat.le_refl _) (fun b _ cI=>by rw [hW4];exact setRow_other _ _ _ _ (fun e=>cI (by rw [OT,e]))) (by rw [hW4];exact .setRow _ _ _) Zg
      refine wp_region ?_
      rw [show List.range (#[o 31,o 32,o 33]:Array Oper).size=[0,1,2] from rfl]
      refine aA.step (v:= .int .i64 (i:Int)) rfl hf.ops.h31 (by decide) ((aI hf.ops.h31 _).trans (by show Result.ok (Next.value (σ 5)) W4=_;rw [h5])) (fun a aA=> ?_)
      refine aA.step (v:= .int .i64 ((i+1:Nat):Int)) rfl hf.ops.h32 (by decide) (jF (q:=1) hf.ops.h32 rfl rfl (by omega) _) (fun a aA=> ?_)
      refine aA.step (v:= .int .i64 ((i+1:Nat):Int)) rfl hf.ops.h33 (by decide) (cy hf.ops.h33 _) (fun a aA=> ?_)
      show Code.wp P (Code.region (r 10) #[o 34,o 35,o 36] false) _ a W4
      refine wp_region ?_
      rw [show List.range (#[o 34,o 35,o 36]:Array Oper).size=[0,1,2] from rfl]
      refine aA.step (v:= .int .i64 (j:Int)) rfl hf.ops.Y0 (by decide) ((aI hf.ops.Y0 _).trans (by show Result.ok (Next.value (σ 6)) W4=_;rw [h6])) (fun a aA=> ?_)
      refine aA.step (v:= .int .i64 ((j+1:Nat):Int)) rfl hf.ops.Y1 (by decide) (jF (q:=1) hf.ops.Y1 rfl rfl (by omega) _) (fun a aA=> ?_)
      refine aA.step (v:= .int .i64 ((j+1:Nat):Int)) rfl hf.ops.Y2 (by decide) (cy hf.ops.Y2 _) (fun a aA=> ?_)
      refine ⟨⟨_,aA,h0,h1,i+1,j+1,by omega,by omega,rfl,rfl,_,sk2,_,φ3,yj++[xs[j]],by rw [hW4];exact td _ SQ,by rw [e3];rfl,Zh,⟨?_,?_,by rw [List.length_append,hR.len];rfl,?_⟩⟩,?_⟩
      ·simp only [List.size_toArray,List.length_append,List.length_take,List.length_drop,nM,hl]
       omega
      ·rw [show (i+1) *E.size=i *E.size+E.size from Nat.succ_mul _ _]
       have h9:(lB.toList.take (i *E.size)++GV).length=i *E.size+E.size:=by rw [List.length_append,List.length_take,nM,hl];omega
       show aW c.key φ3 E.size (List.take (i *E.size+E.size) (lB.toList.take (i *E.size)++GV++lB.toList.drop (i *E.size+E.size))) _
       rw [←h9,List.take_left]
       exact (hR.done.mono t1.ph).append ⟨GV,[],by simp,hl,eu.mono t1.ph,rfl⟩
      ·show (List.take (xs.length *E.size) (lB.toList.take (i *E.size)++GV++lB.toList.drop (i *E.size+E.size))).drop ((j+1) *E.size)=_
       have h8:cells.drop ((j+1) *E.size)=(lB.toList.take (xs.length *E.size)).drop ((j+1) *E.size):=by
        rw [show (j+1) *E.size=j *E.size+E.size from Nat.succ_mul _ _,←List.drop_drop,←List.drop_drop,hR.rest]
       rw [h8]
       apply List.ext_getElem?
       intro q
       have Nz:(j+1) *E.size=j *E.size+E.size:=Nat.succ_mul _ _
       rw [List.getElem?_drop,List.getElem?_drop,List.getElem?_take,List.getElem?_take]
       split
       ·have h9:(lB.toList.take (i *E.size)++GV).length=i *E.size+E.size:=by rw [List.length_append,List.length_take,nM,hl];omega
        rw [List.getElem?_append_right (by rw [h9];omega),h9,List.getElem?_drop]
        congr 1
        omega
       ·rfl
      ·have:a.tmps.getD 6 undef= .int .i64 ((j+1:Nat):Int):=by rw [aA.get 6];rfl
       rw [this];simp;omega
 exact key _ (tm2 _ _ 40)
theorem VJ (hf:SP P f t ti tb fu fi el fn r o) (Ry:SM P fi t ti el fni ri oi) (hT:kn P c.ti) (hE:c.tv el=some E) (dM:E.st=true) (dZ:0<E.size):H3 P c f el:=by
 refine ⟨?_⟩
 intro S Inv step g lb hp v0 xs ys w Z0 φ0 s0 s' Dw fB B1 hinv ki iZ hd
 obtain ⟨mN,nK⟩:=bE hE
 obtain ⟨I,cells,hI,Q8,dg,iA,jk⟩:=fB.row
 have hI:c.ti el=some I:=hI
 rw [mN] at hI
 cases hI
 have dg:w.ownsRow 0 el E.size v0 xs.length cells:=dg
 have iA:aW c.key φ0 E.size cells xs:=iA
 have pG: ∀b,v0.ownBlock=some b→ ∀off,φ0 b off=none:=by
  intro b hb off
  cases h:φ0 b off with
  |none=>rfl
  |some u=>have:=((jk b hb).2.1 off u h).1;cases this
 rcases dg.2 with ⟨rfl,h0⟩|⟨gb,cap,cW,rfl,_,cF,Gn,Cr,re,Lz⟩
 ·have hx:xs=[]:=List.eq_nil_of_length_eq_zero h0
  subst hx
  refine wk hf.pos hf.name hf.body ((Kb (ob:=none) (g0:=0) (cW:= #[]) hf Ry hp hT hE dM dZ (cp:=0) Dw (fun h=>absurd h (by simp)) (fun b hb=>by cases hb) iA (by simp) hinv ki iZ hd).mono ?_)
  rintro e W ⟨v,rfl,Z,φ,hW,h1⟩
  rcases h1 with ⟨rfl,rfl,_⟩|⟨h1,_⟩
  ·exact ⟨_,rfl,Z,φ,hW,⟨E,[],mN,nK,⟨by simp,.inl ⟨rfl,rfl⟩⟩,rfl,fun a7 hb=>by simp [Value.ownBlock] at hb⟩,fun _ h=>h⟩
  ·simp at h1
 ·have cz:=bm cF
  have af2:xs.length<2^63:=by unfold Go.maxLen at Cr;omega
  refine wk hf.pos hf.name hf.body ((Kb (ob:=some gb) (g0:=gb) hf Ry hp hT hE dM dZ (cp:=cap) Dw (fun h=>⟨rfl,rfl,cF,Lz,Gn,re⟩) (fun b hb=>by cases hb;exact ⟨B1 gb rfl,cz,pG gb rfl⟩) iA af2 hinv ki iZ hd).mono ?_)
  rintro e W ⟨v,rfl,Z,φ,hW,h1⟩
  rcases h1 with ⟨rfl,rfl,h2⟩|⟨h0,rfl,lB,h2,h3,h4⟩
  ·refine ⟨_,rfl,Z,φ,hW,⟨E,cells,mN,nK,⟨dg.1,.inr ⟨gb,cap,cW,rfl,Nat.zero_le _,(h2 gb rfl).trans cF,Gn,Cr,re,Lz⟩⟩,iA.mono hW.tr.ph,fun a7 hb=>⟨hb,fun off u hu=> ?_,fun hc=>hc.elim⟩⟩,fun _ h=>h⟩
   have hu:φ a7 off=some u:=hu
   rw [hW.free a7 off hb] at hu;cases hu
  ·have hle:ys.length≤cap:=Nat.le_trans (Sq hd) Gn
   refine ⟨_,rfl,Z,φ,hW,⟨E,lB.toList.take (ys.length *E.size),mN,nK,⟨?_,.inr ⟨gb,cap,lB,rfl,Nat.zero_le _,?_,hle,Cr,h3,rfl⟩⟩,h4,fun a7 hb=>⟨hb,fun off u hu=> ?_,fun hc=>hc.elim⟩⟩,fun _ h=>h⟩
   ·exact h4.length
   ·have:lB=lB:=rfl
    exact h2
   ·have hu:φ a7 off=some u:=hu
    rw [hW.free a7 off hb] at hu;cases hu
end
end Dn
/-
  Reasoning about functions on typed values. Conditions: none.
-/
set_option linter.unusedVariables false
namespace Dn
open Go
section
variable {α R:Type}
theorem cg {l:List α} {k:Nat} (h:k<l.length) (K:α→Option R):ix l (k:Int) K=K l[k]:=by
 simp [ix,h]
theorem yS {l:List α} {i:Int} (h0:0≤i) (h:i.toNat<l.length) (K:α→Option R):ix l i K=K l[i.toNat]:=by
 simp [ix,h,h0]
theorem V9 {l:List α} (h:0<l.length) (K:α→Option R):ix l 0 K=K l[0]:=by simp [ix,h]
@[simp] theorem Hc {A : Type} (x : Option A) : bd x (fun a => some a) = x := by cases x <;> rfl
end
def bK {A:Type} (x:Option A) (Q:A→Prop):Prop:= ∃a,x=some a∧Q a
section
variable {A B α σ ρ:Type}
theorem bK.mk {a:A} {Q:A→Prop} (h:Q a):bK (some a) Q:=⟨a,rfl,h⟩
theorem bK.of {x:Option A} {a:A} {Q:A→Prop} (e:x=some a) (h:Q a):bK x Q:=⟨a,e,h⟩
theorem bK.bd {x:Option A} {K:A→Option B} {P:A→Prop} {Q:B→Prop} (h:bK x P) (hk: ∀a,P a→bK (K a) Q):bK (bd x K) Q:=by
 obtain ⟨a,rfl,hp⟩:=h;exact hk a hp
theorem bK.imp {x:Option A} {P Q:A→Prop} (h:bK x P) (LQ: ∀a,P a→Q a):bK x Q:=by
 obtain ⟨a,e,hp⟩:=h;exact ⟨a,e,LQ a hp⟩
theorem bK.ix {l:List α} {k:Nat} {K:α→Option A} {Q:A→Prop} (h:k<l.length) (hk:bK (K l[k]) Q):bK (ix l (k:Int) K) Q:=by rw [cg h];exact hk
theorem bK.eq {x:Option A} {a:A} (h:bK x (· =a)):x=some a:=by obtain ⟨b,e,rfl⟩:=h;exact e
variable {body:σ→Option (Sum σ ρ)}
theorem bK.loop (I:σ→Prop) (μ:σ→Nat) {Q:ρ→Prop} {s:σ} (hs:I s) (h: ∀s,I s→bK (body s) fun x=>match x with| .inl s'=>I s'∧μ s'<μ s| .inr r=>Q r):bK (Loop body s) Q:=by
 refine SG I μ Q (fun s hs=> ?_) hs
 obtain ⟨x,e,hx⟩:=h s hs
 cases x with
 |inl s'=>exact .inl ⟨s',e,hx⟩
 |inr r=>exact .inr ⟨r,e,hx⟩
theorem bK.count (S:Nat→σ) (n:Nat) {Q:ρ→Prop} (P:Nat→Prop) {s:σ} (e:s=S 0) (h0:P 0) (h: ∀k,k<n→P k→bK (body (S k)) fun x=>match x with| .inl s'=>s'=S (k+1)∧P (k+1)| .inr r=>Q r)
 (he:P n→bK (body (S n)) fun x=>match x with| .inl _=>False| .inr r=>Q r):bK (Loop body s) Q:=by
 subst e
 refine SH S n Q P h0 (fun k hk hp=> ?_) (fun hp=> ?_)
 ·obtain ⟨x,e,hx⟩:=h k hk hp
  cases x with
  |inl s'=>obtain ⟨rfl,hx⟩:=hx;exact .inl ⟨e,hx⟩
  |inr r=>exact .inr ⟨r,e,hx⟩
 ·obtain ⟨x,e,hx⟩:=he hp
  cases x with
  |inl s'=>exact hx.elim
  |inr r=>exact ⟨r,e,hx⟩
end
theorem wrap64 {x:Int} (h1: -9223372036854775808≤x) (h2:x≤9223372036854775807):IntKind.wrap .i64 x=x:=Vw h1 h2
end Dn
/-
  Functions of the library, on typed values. Conditions: none.
-/
set_option linter.unusedVariables false
namespace Dn
open Go
def Iy (x y:Int):Int:=if x<y then-1 else if y<x then 1 else 0
def pB {α:Type} (key:α→Int) (L:List α) (s:Int):Nat:=L.countP (fun e=>decide (key e<s))
def fY {α:Type} (key:α→Int) (L:List α) (s:Int):Bool:=L.any fun e=>decide (key e=s)
def tG {α:Type} (key:α→Int) (L:List α):Prop:=L.Pairwise fun a b=>key a<key b
section
variable {α τ:Type} {key:α→Int}
theorem ZB {L:List α} {s:Int} {p:Nat} (hp:p≤L.length) (h1: ∀k (hk:k<L.length),k<p→key L[k]<s) (h2: ∀k (hk:k<L.length),p≤k→s≤key L[k]):pB key L s=p:=by
 have h3:(L.take p).countP (fun e=>decide (key e<s))=(L.take p).length:=by
  rw [List.countP_eq_length]
  intro a ha
  obtain ⟨k,hk,rfl⟩:=List.mem_iff_getElem.1 ha
  have HK:k<p:=by rw [List.length_take] at hk;omega
  rw [List.getElem_take]
  exact decide_eq_true (h1 k (by omega) HK)
 have h4:(L.drop p).countP (fun e=>decide (key e<s))=0:=by
  rw [List.countP_eq_zero]
  intro a ha
  obtain ⟨k,hk,rfl⟩:=List.mem_iff_getElem.1 ha
  rw [List.length_drop] at hk
  rw [List.getElem_drop]
  have:=h2 (p+k) (by omega) (by omega)
  simp;omega
 have h5:pB key L s=(L.take p++L.drop p).countP (fun e=>decide (key e<s)):=by rw [List.take_append_drop];rfl
 rw [h5,List.countP_append,h3,h4,List.length_take]
 omega
theorem tG.lt {L:List α} (hs:tG key L) {i j:Nat} (hj:j<L.length) (h:i<j):key (L[i]'(by omega))<key L[j]:=List.pairwise_iff_getElem.1 hs i j (by omega) hj h
theorem tG.le {L:List α} (hs:tG key L) {i j:Nat} (hj:j<L.length) (h:i≤j):key (L[i]'(by omega))≤key L[j]:=by
 rcases Nat.lt_or_eq_of_le h with h|h
 ·exact Int.le_of_lt (hs.lt hj h)
 ·subst h;exact Int.le_refl _
theorem Mx (L:List α) (s:Int):pB key L s≤L.length:=List.countP_le_length
theorem tG.lb {L:List α} (hs:tG key L) (s:Int):(∀k (hk:k<L.length),k<pB key L s→key L[k]<s)∧(∀k (hk:k<L.length),pB key L s≤k→s≤key L[k]):=by
 have: ∃p,p≤L.length∧(∀k (hk:k<L.length),k<p→key L[k]<s)∧(∀k (hk:k<L.length),p≤k→s≤key L[k]):=by
  induction L with
  |nil=>exact ⟨0,Nat.le_refl _,fun k hk=>by simp at hk,fun k hk=>by simp at hk⟩
  |cons a l ih=>
   have w9:=List.pairwise_cons.1 hs
   by_cases ha:key a<s
   ·obtain ⟨p,h1,h2,h3⟩:=ih w9.2
    refine ⟨p+1,by simp;omega,fun k hk PM=> ?_,fun k hk PM=> ?_⟩
    ·cases k with
     |zero=>exact ha
     |succ k=>exact h2 k (by simpa using hk) (by omega)
    ·cases k with
     |zero=>omega
     |succ k=>exact h3 k (by simpa using hk) (by omega)
   ·refine ⟨0,Nat.zero_le _,fun k hk PM=>by omega,fun k hk _=> ?_⟩
    cases k with
    |zero=>simp;omega
    |succ k=>
     have:=w9.1 (l[k]'(by simpa using hk)) (List.getElem_mem _)
     simp only [List.getElem_cons_succ];omega
 obtain ⟨p,h1,h2,h3⟩:=this
 rw [ZB h1 h2 h3]
 exact ⟨h2,h3⟩
theorem tG.has {L:List α} (hs:tG key L) (s:Int):fY key L s=true↔ ∃h:pB key L s<L.length,key L[pB key L s]=s:=by
 obtain ⟨h1,h2⟩:=hs.lb s
 unfold fY
 rw [List.any_eq_true]
 constructor
 ·rintro ⟨x,hx,he⟩
  obtain ⟨k,hk,rfl⟩:=List.mem_iff_getElem.1 hx
  have he:key L[k]=s:=by simpa using he
  have Qu:pB key L s≤k:=by
   refine Nat.le_of_not_lt fun cz=> ?_
   have:=h1 k hk cz;omega
  have hl:pB key L s<L.length:=by omega
  refine ⟨hl,?_⟩
  have:=h2 _ hl (Nat.le_refl _)
  have:=hs.le hk Qu
  omega
 ·rintro ⟨h,he⟩
  exact ⟨_,List.getElem_mem h,decide_eq_true he⟩
theorem qY {L:List α} {s:Int}:fY key L s=true↔ ∃x∈L,key x=s:=by simp [fY]
noncomputable def bsL (x:List α) (target:τ) (cmp:α→τ→Option Int) (st:Int×Int):Option ((Int×Int)⊕Int):=
 if st.1<st.2 then
 if (0:Int)≤1 then
 ix x (IntKind.wrap .i64 (Int.fdiv (IntKind.wrap .u64 (IntKind.wrap .i64 (st.1+st.2))) (2^min (Int.toNat 1) (IntKind.bits .u64)))) fun y=>
 bd (cmp y target) fun rA=>
 bd (
  if rA<0 then
  some (IntKind.wrap .i64 ((IntKind.wrap .i64 (Int.fdiv (IntKind.wrap .u64 (IntKind.wrap .i64 (st.1+st.2))) (2^min (Int.toNat 1) (IntKind.bits .u64))))+1),st.2)
  else
  some (st.1,IntKind.wrap .i64 (Int.fdiv (IntKind.wrap .u64 (IntKind.wrap .i64 (st.1+st.2))) (2^min (Int.toNat 1) (IntKind.bits .u64)))):Option (Int×Int)) fun w1=>
 some (.inl (w1.1,w1.2))
 else none
 else
 some (.inr st.1)
noncomputable def bsearch (x:List α) (target:τ) (cmp:α→τ→Option Int):Option (Int×Bool):=
 bd (Loop (bsL x target cmp) (0,(x.length:Int))) fun w=>
 bd (
  if w<(x.length:Int) then
  ix x w fun y1=>
  bd (cmp y1 target) fun aV=>
  some (w,decide (aV=0))
  else
  some (w,false):Option (Int×Bool)) fun w2=>
 some (w2.1,w2.2)
theorem EH {L:List α} {s:Int} {cmp:α→Int→Option Int} (hs:tG key L) (hl:L.length<2^60) (hc: ∀a,cmp a s=some (Iy (key a) s)):bsearch L s cmp=some ((pB key L s:Int),fY key L s):=by
 obtain ⟨vY,uX⟩:=hs.lb s
 have hle:=Mx (key:=key) L s
 have fZ:Loop (bsL L s cmp) (0,(L.length:Int))=some (pB key L s:Int):=by
  refine bK.eq (bK.loop (fun st=> ∃i j:Nat,st=((i:Int),(j:Int))∧i≤pB key L s∧pB key L s≤j∧j≤L.length) (fun st=>(st.2-st.1).toNat) ⟨0,L.length,rfl,Nat.zero_le _,hle,Nat.le_refl _⟩ ?_)
  rintro st ⟨i,j,rfl,hi,hj,Fa⟩
  unfold bsL
  by_cases cz:i<j
  ·have hm:(i+j)/2<L.length:=by omega
   simp only [show ((i:Int)<(j:Int)) by omega,if_true,show ((0:Int)≤1) by decide,SF (by omega:i+j<2^62),cg hm,hc,aM]
   by_cases hlb:(i+j)/2<pB key L s
   ·have hk:=vY _ hm hlb
    have:Iy (key L[(i+j)/2]) s= -1:=by simp [Iy,hk]
    simp only [this,show ((-1:Int)<0) by decide,if_true,aM]
    rw [wrap64 (by omega) (by omega)]
    exact .mk ⟨⟨(i+j)/2+1,j,by simp,by omega,hj,Fa⟩,by omega⟩
   ·have hk:=uX _ hm (by omega)
    have: ¬Iy (key L[(i+j)/2]) s<0:=by unfold Iy;rw [if_neg (by omega)];split<;>omega
    simp only [this,if_false,aM]
    exact .mk ⟨⟨i,(i+j)/2,rfl,hi,by omega,by omega⟩,by omega⟩
  ·simp only [show¬((i:Int)<(j:Int)) by omega,if_false]
   exact .mk (by show (i:Int)=(pB key L s:Int);omega)
 unfold bsearch
 rw [fZ]
 simp only [aM]
 by_cases cz:pB key L s<L.length
 ·simp only [show ((pB key L s:Int)<(L.length:Int)) by omega,if_true,cg cz,hc,aM]
  have h3:=uX _ cz (Nat.le_refl _)
  have:decide (Iy (key L[pB key L s]) s=0)=fY key L s:=by
   unfold Iy
   rw [if_neg (by omega)]
   by_cases he:key L[pB key L s]=s
   ·rw [if_neg (by omega),decide_eq_true rfl,(hs.has s).2 ⟨cz,he⟩]
   ·rw [if_pos (by omega),decide_eq_false (by decide)]
    symm;rw [Bool.eq_false_iff]
    intro hh
    obtain ⟨_,hh⟩:=(hs.has s).1 hh
    exact he hh
  rw [this]
 ·simp only [show¬((pB key L s:Int)<(L.length:Int)) by omega,if_false,aM]
  have:fY key L s=false:=by
   rw [Bool.eq_false_iff]
   intro hh
   obtain ⟨hh,_⟩:=(hs.has s).1 hh
   exact cz hh
  rw [this]
def EI (key:α→Int) (L:List α) (a:α):List α:=L.take (pB key L (key a))++[a]++L.drop (pB key L (key a))
theorem EJ {L:List α} {a:α} {ZC:Nat} (hb:(L.length+1) *ZC≤2^46):pQ ZC L (pB key L (key a):Int) [a]=some (EI key L a):=by
 unfold pQ
 rw [if_pos]
 ·rfl
 ·exact ⟨by omega,by simpa using Mx L _,by simp,by simpa using hb⟩
theorem xr {L:List α} {ZC:Nat} (h:L.length *ZC≤2^46):jo ZC L=some L:=if_pos h
end
section
variable {α ρ:Type}
theorem take_succ {L:List α} {k:Nat} (hk:k<L.length):L.take (k+1)=L.take k++[L[k]]:=(List.take_append_getElem hk).symm
theorem Ky {body:Int→Option (Int⊕(Unit⊕ρ))} (n:Nat) (p:Nat→Prop) (c:ρ) (h: ∀k,k<n→(∀j,j<k→p j)→(p k→body (k:Int)=some (.inl ((k+1:Nat):Int)))∧(¬p k→body (k:Int)=some (.inr (.inr c))))
 (he:body (n:Int)=some (.inr (.inl ()))):bK (Loop body 0) fun r=>(r= .inl ()∧ ∀k,k<n→p k)∨(r= .inr c∧ ∃k,k<n∧ ¬p k):=by
 refine bK.count (fun k=>(k:Int)) n (fun k=> ∀j,j<k→p j) rfl (fun j hj=>by omega) (fun k hk hp=> ?_) (fun hp=> ?_)
 ·by_cases Ue:p k
  ·refine .of ((h k hk hp).1 Ue) ⟨rfl,fun j hj=> ?_⟩
   by_cases Xi:j=k
   ·subst Xi;exact Ue
   ·exact hp j (by omega)
  ·exact .of ((h k hk hp).2 Ue) (.inr ⟨rfl,k,hk,Ue⟩)
 ·exact .of he (.inl ⟨rfl,hp⟩)
theorem AW [DecidableEq α] {a b:List α} {body:Int→Option (Int⊕(Unit⊕Bool))} (hl:a.length=b.length) (h: ∀k (ha:k<a.length) (hb:k<b.length),body (k:Int)=some (if a[k]=b[k] then .inl ((k+1:Nat):Int) else .inr (.inr false)))
 (he:body (a.length:Int)=some (.inr (.inl ()))):Loop body 0=some (if a=b then .inl () else .inr false):=by
 obtain ⟨r,e,hr⟩:=Ky (body:=body) a.length (fun k=>a[k]? =b[k]?) false (fun k hk _=>by
  have hkb:k<b.length:=by omega
  rw [List.getElem?_eq_getElem hk,List.getElem?_eq_getElem hkb,h k hk hkb]
  constructor
  ·intro hh;rw [if_pos (by simpa using hh)]
  ·intro hh;rw [if_neg (by simpa using hh)]) he
 rw [e]
 rcases hr with ⟨rfl,pL⟩|⟨rfl,k,hk,cI⟩
 ·rw [if_pos]
  refine List.ext_getElem? fun k=> ?_
  by_cases hk:k<a.length
  ·exact pL k hk
  ·rw [List.getElem?_eq_none (by omega),List.getElem?_eq_none (by omega)]
 ·rw [if_neg]
  intro Wa;subst Wa;exact cI rfl
end
end Dn
/-
  Maps as lists of entries: what is there behind a store. Conditions: none.
-/
set_option linter.unusedVariables false
namespace Dn
open Go
theorem xv (es:List MV) (ks:List MV):cJ es ks≤es.length:=by
 rw [dC];have:=zj (es.map jh) ks;simpa using this
theorem z6 {gy:List (List MV)} {ks Fo:List MV} (h:dQ Fo ks=false):ei (gy++[Fo]) ks=if ei gy ks<gy.length then ei gy ks else gy.length+1:=by
 induction gy with
 |nil=>simp [ei,h]
 |cons q r ih=>
  simp only [List.cons_append,ei,List.length_cons]
  rcases Bool.eq_false_or_eq_true (dQ q ks) with hm|hm
  ·simp [hm]
  ·have:=zj r ks
   simp only [hm,cond_false]
   by_cases hl:ei r ks<r.length
   ·simp [hl,ih]
   ·simp [hl,ih]
theorem A4 {gy:List (List MV)} {ks:List MV} (hr:dQ ks ks=true) (h:ei gy ks=gy.length):ei (gy++[ks]) ks=gy.length:=by
 induction gy with
 |nil=>simp [ei,hr]
 |cons q r ih=>
  simp only [List.cons_append,ei,List.length_cons] at h⊢
  cases hm:dQ q ks with
  |true=>simp [hm] at h
  |false=>
   simp only [hm,cond_false] at h⊢
   rw [ih (by omega)]
theorem KL {gy:List (List MV)} {ks:List MV} (h:ei gy ks<gy.length):gy[ei gy ks]? =some ks:=by
 obtain ⟨q,hq⟩: ∃q,gy[ei gy ks]? =some q:=⟨_,List.getElem?_eq_getElem h⟩
 rw [hq,C0 hq]
theorem ET (ks:List MV) (v:MV):jh (.cH [.agg ks,v])=ks:=rfl
def xQ (es ks:List MV) (z v:MV):List MV:=tQ (tP es ks z) (cJ es ks) v
theorem A5 {es ks:List MV} {z v:MV}:(xQ es ks z v).map jh=if cJ es ks<es.length then es.map jh else es.map jh++[ks]:=by
 have hle:=xv es ks
 unfold xQ tP
 rw [eh]
 by_cases h:cJ es ks=es.length
 ·simp only [h,decide_true,cond_true]
  unfold tQ
  simp [ET]
 ·have cz:cJ es ks<es.length:=by omega
  simp only [h,decide_false,cond_false,cz,if_true]
  unfold tQ
  rw [List.getElem?_eq_getElem cz]
  simp only
  apply List.ext_getElem?
  intro i
  rw [List.getElem?_map,List.getElem?_map,List.getElem?_set]
  by_cases hi:cJ es ks=i
  ·subst hi;simp [cz,ET]
  ·simp [hi]
theorem Wn {es ks:List MV} {z v:MV}:(xQ es ks z v)[cJ es ks]? =some (.cH [.agg ks,v]):=by
 have hle:=xv es ks
 unfold xQ tP
 rw [eh]
 by_cases h:cJ es ks=es.length
 ·simp only [h,decide_true,cond_true]
  unfold tQ
  simp [ET]
 ·have cz:cJ es ks<es.length:=by omega
  simp only [h,decide_false,cond_false]
  unfold tQ
  rw [List.getElem?_eq_getElem cz]
  have hk:jh es[cJ es ks]=ks:=by
   have h1:(es.map jh)[ei (es.map jh) ks]? =some (jh es[cJ es ks]):=by
    rw [←dC,List.getElem?_map,List.getElem?_eq_getElem cz];rfl
   exact C0 h1
  simp [cz,hk]
theorem MK {es ks:List MV} {z v:MV} {i:Nat} (hi:i<es.length) (cI:i≠cJ es ks):(xQ es ks z v)[i]? =es[i]? :=by
 have hle:=xv es ks
 unfold xQ tP
 rw [eh]
 by_cases h:cJ es ks=es.length
 ·simp only [h,decide_true,cond_true]
  unfold tQ
  simp only [List.getElem?_append_right (Nat.le_refl _),Nat.sub_self,List.getElem?_cons_zero]
  rw [List.getElem?_set_ne (by omega),List.getElem?_append_left hi]
 ·have cz:cJ es ks<es.length:=by omega
  simp only [h,decide_false,cond_false]
  unfold tQ
  rw [List.getElem?_eq_getElem cz]
  simp only
  rw [List.getElem?_set_ne (fun e=>cI e.symm)]
theorem Tv {es ks:List MV} {z v:MV}:(xQ es ks z v).length=if cJ es ks<es.length then es.length else es.length+1:=by
 have h:((xQ es ks z v).map jh).length=_:=congrArg List.length A5
 rw [List.length_map] at h
 rw [h];split<;>simp
def ML (es ks:List MV):Option MV:=(es[cJ es ks]?).map Un
theorem KM (es ks:List MV):vN es ks=match ML es ks with|some v=>asB v|none=>false:=by
 unfold vN ML;cases es[cJ es ks]? <;>rfl
theorem FW {es ks:List MV} {z v:MV} (hr:dQ ks ks=true):ML (xQ es ks z v) ks=some v:=by
 have hle:=xv es ks
 have:cJ (xQ es ks z v) ks=cJ es ks:=by
  rw [dC,A5,dC]
  split
  ·rfl
  ·rename_i h
   have h1:=zj (es.map jh) ks
   simp only [List.length_map] at h1⊢
   have h2:ei (es.map jh) ks=(es.map jh).length:=by simp;omega
   rw [A4 hr h2,h2]
 unfold ML
 rw [this,Wn];rfl
theorem EU {es ks Fo:List MV} {z v:MV} (cI:dQ ks Fo=false):ML (xQ es ks z v) Fo=ML es Fo:=by
 unfold ML
 have akh:=xv es Fo
 have hle:=xv es ks
 have L2:cJ (xQ es ks z v) Fo=if cJ es ks<es.length then cJ es Fo else if cJ es Fo<es.length then cJ es Fo else es.length+1:=by
  rw [dC,A5]
  split
  ·rw [dC]
  ·rw [z6 cI,←dC];simp
 by_cases cz:cJ es Fo<es.length
 ·have hm:cJ (xQ es ks z v) Fo=cJ es Fo:=by rw [L2];simp [cz]
  have Y8:cJ es Fo≠cJ es ks:=by
   intro he
   have h1:=KL (gy:=es.map jh) (ks:=Fo) (by rw [←dC];simpa using cz)
   have h2:=KL (gy:=es.map jh) (ks:=ks) (by rw [←dC,←he];simpa using cz)
   rw [←dC,he,dC,h2] at h1
   cases h1
   have hq:dQ ks ks=true:=by
    have:=cz
    rw [he] at this
    have h3: ∀(l:List (List MV)),ei l ks<l.length→ ∃q,dQ q ks=true:=by
     intro l
     induction l with
     |nil=>intro h;simp [ei] at h
     |cons q r ih=>
      intro h
      simp only [ei] at h
      cases hm:dQ q ks with
      |true=>exact ⟨q,hm⟩
      |false=>simp only [hm,cond_false,List.length_cons] at h;exact ih (by omega)
    obtain ⟨q,hq⟩:=h3 (es.map jh) (by rw [←dC];simpa using this)
    have:=Jw hq
    subst this
    exact hq
   rw [hq] at cI;cases cI
  rw [hm,MK cz Y8]
 ·have Bi:es[cJ es Fo]? =none:=by rw [List.getElem?_eq_none_iff];omega
  rw [Bi]
  have hlen:=Tv (es:=es) (ks:=ks) (z:=z) (v:=v)
  have:(xQ es ks z v)[cJ (xQ es ks z v) Fo]? =none:=by
   rw [List.getElem?_eq_none_iff,L2,hlen]
   repeat' split
   all_goals omega
  rw [this]
end Dn
/-
  A state in which variables of packages have given data. Conditions: none.
-/
set_option linter.unusedVariables false
set_option linter.unusedSimpArgs false
namespace Dn
open Go
def cellsD:Nat→DataW Unit→List Value
 |n+1,.agg ds=>ds.flatMap (cellsD n)
 |_,.lit (.int k v)=>[.int k v]
 |_,_=>[]
def Qk (cs:Array Value):Obj→Obj
 | .cells _ t z=> .cells cs t z
 |o=>o
def E6 (P:Program):List (String×DataW Unit)→Array Obj→Array Obj
 |[],h=>h
 |x::r,h=>match P.globalNamed x.1 with
  |some g=>E6 P r (h.modify g (Qk (cellsD 4 x.2).toArray))
  |none=>E6 P r h
noncomputable def adx (P:Program) (l:List (String×DataW Unit)) (os:Os) (args:Array Value):World:=
 {World.holding P os ⟨#[],args,[]⟩ with heap:=E6 P l (World.holding P os ⟨#[],args,[]⟩).heap}
theorem K1 {a b:Bool} (h1:a=true) (h2:b=true):(a&&b)=true:=by rw [h1,h2];rfl
def xR:List Char:=[99,117,116].map Char.ofNat
theorem ady:(xR== "gc".toList)=false:=by kernel_rfl
theorem WE:(xR== "spec".toList)=false:=by kernel_rfl
theorem ZK:(xR== "cut".toList)=true:=by kernel_rfl
theorem MZ:(xR== "carried".toList)=false:=by kernel_rfl
section
variable {P:Program} {L:List (List Char)} {ns:List Nat}
theorem Ho (h:P.initOrder=String.ofList (ns.map Char.ofNat)):P.initOrder.toList=ns.map Char.ofNat:=by rw [h,String.toList_ofList]
theorem WG {h s:List Char} (e:wordsSigns P.initOrder.toList=h::s::L) (h1:isSumSigns s=true) (h2:(h== "harness".toList)=true):P.mainIs=some (true,s):=by
 unfold Program.mainIs
 rw [e]
 simp only [h1,h2,Bool.not_true,Bool.false_eq_true,if_false,if_true]
theorem WH (e:behindMainWord (wordsSigns P.initOrder.toList)=xR::L):P.make=some .cut:=by
 unfold Program.make
 rw [e]
 simp only [ady,WE,ZK,Bool.or_false,Bool.false_eq_true,if_false,Bool.true_or,if_true]
theorem ZL (e:behindMainWord (wordsSigns P.initOrder.toList)=xR::L) (h1:(stripLifts liftWords (xR::L)).1=[]) (h2:((stripLifts liftWords (xR::L)).2.head? ==some "cut".toList)=true)
 (h3:P.doorFits []=true) (h4:P.laysLater=false) (h5:P.bearsReflect=false):P.mayEnter=true:=by
 unfold Program.mayEnter
 rw [e]
 simp only [h1,h2,h3,h4,h5,List.contains_nil,Bool.false_or,Bool.not_false,Bool.true_and,Bool.and_true,Bool.or_true]
theorem T3 (e:behindMainWord (wordsSigns P.initOrder.toList)=xR::L) (h1:(stripLifts liftWords (xR::L)).1=[]):P.liftsFinal=false:=by
 unfold Program.liftsFinal Program.headLifts
 rw [e]
 have h0:((xR::L).head? ==some "carried".toList)=false:=by
  simp only [List.head?_cons]
  have:=MZ
  simpa using this
 simp only [h0,h1,Bool.false_and,Bool.false_or]
 split<;>rfl
theorem WI {c:OpenClaim} (h:P.make=some .cut) (hc:c.make= .cut):(P.make==some c.make)=true:=by rw [h,hc];rfl
theorem T4 {c:OpenClaim} (h:P.liftsFinal=false) (hc:c.lifted=false):(c.lifted==P.liftsFinal)=true:=by rw [h,hc];rfl
end
end Dn
