import Derived.Test.YtbkodohojpchjaaGreatDoorDnD
import Derived.Test.YtbkodohojpchjaaGreatDoorDnYT
import Derived.Laws.RangeString
/-
  Names and paths: what the functions yield. Conditions: none.
-/
open Go Dn
set_option linter.unusedVariables false
set_option linter.unusedSimpArgs false
namespace Dn.S
def letters:List UInt8:=[97,98,99,100,101,102,103,104,105,106,107,108,109,110,111,112,113,114,115,116,117,118,119,120,121,122,48,49,50,51,52,53,54,55,56,57,45,95]
def lc (b:UInt8):Bool:=letters.contains b
def j6 (s:List UInt8):Bool:=decide (s≠[])&&(decide (s.length≤30)&&s.all lc)
theorem VT {b:UInt8} (h:lc b=true):b.toNat<128:=by
 have hm:b∈letters:=by simpa [lc] using h
 have: ∀x∈letters,x.toNat<128:=by decide
 exact this b hm
theorem Sb (l:List UInt8) (c:UInt8):0≤Lib.indexByte l c↔c∈l:=by
 induction l with
 |nil=>simp [Lib.indexByte]
 |cons b l ih=>
  have SO:=Lib.indexByte_ge l c
  unfold Lib.indexByte
  by_cases hb:b=c
  ·subst hb;simp
  ·have BM:(b==c)=false:=by simpa using hb
   have vT: ¬c=b:=fun e=>hb e.symm
   simp only [BM,if_neg (show¬(false=true) by decide),List.mem_cons,vT,false_or,←ih]
   by_cases hi:Lib.indexByte l c= -1
   ·simp [hi]
   ·have hi':(Lib.indexByte l c== -1)=false:=by simpa using hi
    simp only [hi',if_neg (show¬(false=true) by decide)];omega
theorem Ms {b:UInt8} (h:lc b=true):gk (b.toNat:Int)=some false:=by
 have da:=VT h
 have hm:b∈letters:=by simpa [lc] using h
 unfold gk AM
 have h1:decide ((0:Int)≤(b.toNat:Int)∧(b.toNat:Int)<128)=true:=decide_eq_true ⟨by omega,by omega⟩
 have h2:((b.toNat:Int)).toNat.toUInt8=b:=by simp
 rw [h1,h2]
 have h3:decide (0≤Lib.indexByte letters b)=true:=decide_eq_true ((Sb _ _).2 hm)
 simp only [cond_true,aC]
 show some (!decide (0≤Lib.indexByte letters b))=_
 rw [h3];rfl
theorem contains_eq {s:List UInt8} (h:s.all lc=true) (hl:s.length<2^60):fq s gk=some false:=by
 have fT:Loop (im gk true) ([.s s,.i .i64 0]:List MV)=some (.inl ()):=by
  refine bq.eq (bq.count (fun k=>([.s s,.i .i64 (k:Int)]:List MV)) s.length (fun _=>True) rfl trivial (fun k hk _=> ?_) (fun _=> ?_))
  ·have hb:lc s[k]=true:=List.all_eq_true.1 h _ (List.getElem_mem hk)
   have hd:Utf8.decode (⟨s.toArray⟩:ByteArray) k=(s[k].toNat,1):=by
    have:=decode_ascii (⟨s.toArray⟩:ByteArray) k (by simpa [ByteArray.size] using hk) (by simpa [ByteArray.getElem_eq_getElem_data] using VT hb)
    simpa [ByteArray.getElem_eq_getElem_data] using this
   unfold im
   have h1:G8 ([.s s,.i .i64 (k:Int)]:List MV)=true:=by simp [G8,qc,SF,hk]
   have h2:wR ([.s s,.i .i64 (k:Int)]:List MV)=(s[k].toNat:Int):=by simp [wR,qc,SF,hd]
   have h3:zx ([.s s,.i .i64 (k:Int)]:List MV)=[.s s,.i .i64 ((k+1:Nat):Int)]:=by simp [zx,qc,SF,hd]
   rw [if_pos h1,h2,Ms hb,aC,if_neg (by decide),h3]
   exact .mk ⟨rfl,trivial⟩
  ·unfold im
   have h1:G8 ([.s s,.i .i64 (s.length:Int)]:List MV)=false:=by simp [G8,qc,SF]
   rw [if_neg (by rw [h1];decide)]
   exact .mk rfl
 unfold fq ko mC
 rw [fT]
 rfl
theorem I7 (s:List UInt8):Lib.trimS s letters=[]↔s.all lc=true:=by
 unfold Lib.trimS Lib.trimLeftS Lib.trimRightS
 have hd: ∀l:List UInt8,l.dropWhile (letters.contains ·)=[]↔l.all lc=true:=by
  intro l
  induction l with
  |nil=>simp
  |cons a l ih=>
   simp only [List.dropWhile_cons,List.all_cons]
   cases ha:letters.contains a with
   |true=>simp only [lc,ha,Bool.true_and,if_true];exact ih
   |false=>simp only [lc,ha,Bool.false_and,if_neg (show¬(false=true) by decide)];simp
 rw [hd,List.all_reverse]
 have hid: ∀l:List UInt8,(l.dropWhile (letters.contains ·)).all lc=true↔l.all lc=true:=by
  intro l
  induction l with
  |nil=>simp
  |cons a l ih=>
   simp only [List.dropWhile_cons]
   cases ha:letters.contains a with
   |true=>simp only [if_true,List.all_cons,lc,ha,Bool.true_and];exact ih
   |false=>simp [ha]
 rw [hid,List.all_reverse]
theorem Sc (s:List UInt8):po s=some (j6 s):=by
 unfold po
 rw [Gt]
 by_cases h0:s=[]
 ·simp [h0,j6]
 ·simp only [h0,decide_false,Bool.not_false,if_true]
  by_cases hl:s.length≤30
  ·rw [if_pos (by omega)]
   have eu:1≤s.length:=by cases s with|nil=>exact absurd rfl h0|cons=>simp
   have ht:IE s letters=some (Lib.trimS s letters):=by
    unfold IE
    have e1:Nat.ble 1 s.length=true:=Nat.ble_eq_true_of_le eu
    have e2:Nat.ble s.length (2^46)=true:=Nat.ble_eq_true_of_le (by omega)
    rw [e1,e2];rfl
   show bd (IE s letters) _=_
   rw [ht,aC]
   by_cases ha:s.all lc=true
   ·rw [if_pos ((I7 s).2 ha),contains_eq ha (by omega),aC]
    simp [j6,h0,hl,ha]
   ·rw [if_neg (fun e=>ha ((I7 s).1 e))]
    simp [j6,ha]
  ·rw [if_neg (by omega)]
   simp [j6,hl]
theorem VU (b:UInt8):lc b=decide ((97≤b.toNat∧b.toNat≤122)∨(48≤b.toNat∧b.toNat≤57)∨b.toNat=45∨b.toNat=95):=by
 have key: ∀n,n<256→lc (UInt8.ofNat n)=decide ((97≤n∧n≤122)∨(48≤n∧n≤57)∨n=45∨n=95):=by decide+kernel
 have:=key b.toNat b.toNat_lt
 simpa using this
theorem Ku (s:List UInt8) (hl:s.length<2^60):q0 s=some (j6 s):=by
 obtain ⟨r,e,hr⟩:=pH (body:=nw s) s.length (fun k=>lc (s.getD k 0)=true) false (fun k hk _=>by
  have hc: ∀(b:UInt8) (K:Bool→Option (Int⊕(Unit⊕Bool))),bd (
   if (97:Int)≤(b.toNat:Int) then
   if (b.toNat:Int)≤122 then
   some true
   else
   if (48:Int)≤(b.toNat:Int) then
   if (b.toNat:Int)≤57 then
   some true
   else
   if (b.toNat:Int)=45 then
   some true
   else
   some (decide ((b.toNat:Int)=95))
   else
   if (b.toNat:Int)=45 then
   some true
   else
   some (decide ((b.toNat:Int)=95))
   else
   if (48:Int)≤(b.toNat:Int) then
   if (b.toNat:Int)≤57 then
   some true
   else
   if (b.toNat:Int)=45 then
   some true
   else
   some (decide ((b.toNat:Int)=95))
   else
   if (b.toNat:Int)=45 then
   some true
   else
   some (decide ((b.toNat:Int)=95)):Option Bool) K=K (lc b):=by
   intro b K
   rw [VU]
   generalize b.toNat=n
   repeat' split
   all_goals rw [aC]
   all_goals congr 1
   all_goals first|(symm;apply decide_eq_true;omega)|(rw [decide_eq_decide];omega)
  unfold nw
  rw [if_pos (by omega),if_pos ⟨by omega,by omega⟩,hc,Int.toNat_natCast]
  constructor
  ·intro h;rw [h];simp only [Bool.not_true,Bool.false_eq_true,if_false];rw [wrap64 (by omega) (by omega)];rfl
  ·intro h
   have h:lc (s.getD k 0)=false:=by simpa using h
   rw [h];rfl) (by
  unfold nw
  rw [if_neg (by omega)])
 unfold q0
 rw [e,aC]
 have ni:(∀k,k<s.length→lc (s.getD k 0)=true)↔s.all lc=true:=by
  rw [List.all_eq_true]
  constructor
  ·intro h x hx
   obtain ⟨k,hk,rfl⟩:=List.mem_iff_getElem.1 hx
   have:=h k hk
   rwa [List.getD_eq_getElem?_getD,List.getElem?_eq_getElem hk] at this
  ·intro h k hk
   rw [List.getD_eq_getElem?_getD,List.getElem?_eq_getElem hk]
   exact h _ (List.getElem_mem hk)
 rcases hr with ⟨rfl,h⟩|⟨rfl,k,hk,h⟩
 ·have h:=ni.1 h
  simp only [Gt]
  by_cases h0:s=[]
  ·subst h0;simp [j6]
  ·have eu:1≤s.length:=by cases s with|nil=>exact absurd rfl h0|cons=>simp
   rw [if_pos (by omega)]
   simp only [j6,h0,ne_eq,not_false_eq_true,decide_true,h,Bool.and_true,Bool.true_and,Option.some.injEq,decide_eq_decide]
   omega
 ·have:s.all lc=false:=by
   rw [Bool.eq_false_iff];intro hh;exact h (ni.2 hh k hk)
  simp [j6,this]
end Dn.S
