import Derived.Test.YtbkodohojpchjaaGreatDoorDnD
import Derived.Test.YtbkodohojpchjaaGreatDoorDnYT
import Derived.Laws.RangeString
/-
  Names and paths: what the functions yield. Conditions: none.
-/
open Go Dn
set_option linter.unusedVariables false
set_option linter.unusedSimpArgs false
namespace Dn.S
def letters:List UInt8:=[97,98,99,100,101,102,103,104,105,106,107,108,109,110,111,112,113,114,115,116,117,118,119,120,121,122,48,49,50,51,52,53,54,55,56,57,45,95]
def qq (b:UInt8):Bool:=letters.contains b
def oh (s:List UInt8):Bool:=decide (s≠[])&&(decide (s.length≤30)&&s.all qq)
theorem Sg {b:UInt8} (h:qq b=true):b.toNat<128:=by
 have hm:b∈letters:=by simpa [qq] using h
 have: ∀x∈letters,x.toNat<128:=by decide
 exact this b hm
theorem OA (l:List UInt8) (c:UInt8):0≤Lib.indexByte l c↔c∈l:=by
 induction l with
 |nil=>simp [Lib.indexByte]
 |cons b l ih=>
  have Pf:=Lib.indexByte_ge l c
  unfold Lib.indexByte
  by_cases hb:b=c
  ·subst hb;simp
  ·have zE:(b==c)=false:=by simpa using hb
   have ui: ¬c=b:=fun e=>hb e.symm
   simp only [zE,if_neg (show¬(false=true) by decide),List.mem_cons,ui,false_or,←ih]
   by_cases hi:Lib.indexByte l c= -1
   ·simp [hi]
   ·have hi':(Lib.indexByte l c== -1)=false:=by simpa using hi
    simp only [hi',if_neg (show¬(false=true) by decide)];omega
theorem Jw {b:UInt8} (h:qq b=true):fq (b.toNat:Int)=some false:=by
 have dx:=Sg h
 have hm:b∈letters:=by simpa [qq] using h
 unfold fq yP
 have h1:decide ((0:Int)≤(b.toNat:Int)∧(b.toNat:Int)<128)=true:=decide_eq_true ⟨by omega,by omega⟩
 have h2:((b.toNat:Int)).toNat.toUInt8=b:=by simp
 rw [h1,h2]
 have h3:decide (0≤Lib.indexByte letters b)=true:=decide_eq_true ((OA _ _).2 hm)
 simp only [cond_true,aR]
 show some (!decide (0≤Lib.indexByte letters b))=_
 rw [h3];rfl
theorem contains_eq {s:List UInt8} (h:s.all qq=true) (hl:s.length<2^60):eI s fq=some false:=by
 have iw:Loop (fX fq true) ([.s s,.i .i64 0]:List MV)=some (.inl ()):=by
  refine bV.eq (bV.count (fun k=>([.s s,.i .i64 (k:Int)]:List MV)) s.length (fun _=>True) rfl trivial (fun k hk _=> ?_) (fun _=> ?_))
  ·have hb:qq s[k]=true:=List.all_eq_true.1 h _ (List.getElem_mem hk)
   have hd:Utf8.decode (⟨s.toArray⟩:ByteArray) k=(s[k].toNat,1):=by
    have:=decode_ascii (⟨s.toArray⟩:ByteArray) k (by simpa [ByteArray.size] using hk) (by simpa [ByteArray.getElem_eq_getElem_data] using Sg hb)
    simpa [ByteArray.getElem_eq_getElem_data] using this
   unfold fX
   have h1:Ep ([.s s,.i .i64 (k:Int)]:List MV)=true:=by simp [Ep,oU,O5,hk]
   have h2:u6 ([.s s,.i .i64 (k:Int)]:List MV)=(s[k].toNat:Int):=by simp [u6,oU,O5,hd]
   have h3:xx ([.s s,.i .i64 (k:Int)]:List MV)=[.s s,.i .i64 ((k+1:Nat):Int)]:=by simp [xx,oU,O5,hd]
   rw [if_pos h1,h2,Jw hb,aR,if_neg (by decide),h3]
   exact .mk ⟨rfl,trivial⟩
  ·unfold fX
   have h1:Ep ([.s s,.i .i64 (s.length:Int)]:List MV)=false:=by simp [Ep,oU,O5]
   rw [if_neg (by rw [h1];decide)]
   exact .mk rfl
 unfold eI jK lF
 rw [iw]
 rfl
theorem Gc (s:List UInt8):Lib.trimS s letters=[]↔s.all qq=true:=by
 unfold Lib.trimS Lib.trimLeftS Lib.trimRightS
 have hd: ∀l:List UInt8,l.dropWhile (letters.contains ·)=[]↔l.all qq=true:=by
  intro l
  induction l with
  |nil=>simp
  |cons a l ih=>
   simp only [List.dropWhile_cons,List.all_cons]
   cases ha:letters.contains a with
   |true=>simp only [qq,ha,Bool.true_and,if_true];exact ih
   |false=>simp only [qq,ha,Bool.false_and,if_neg (show¬(false=true) by decide)];simp
 rw [hd,List.all_reverse]
 have hid: ∀l:List UInt8,(l.dropWhile (letters.contains ·)).all qq=true↔l.all qq=true:=by
  intro l
  induction l with
  |nil=>simp
  |cons a l ih=>
   simp only [List.dropWhile_cons]
   cases ha:letters.contains a with
   |true=>simp only [if_true,List.all_cons,qq,ha,Bool.true_and];exact ih
   |false=>simp [ha]
 rw [hid,List.all_reverse]
theorem OB (s:List UInt8):n3 s=some (oh s):=by
 unfold n3
 rw [Ju]
 by_cases h0:s=[]
 ·simp [h0,oh]
 ·simp only [h0,decide_false,Bool.not_false,if_true]
  by_cases hl:s.length≤30
  ·rw [if_pos (by omega)]
   have dS:1≤s.length:=by cases s with|nil=>exact absurd rfl h0|cons=>simp
   have ht:FQ s letters=some (Lib.trimS s letters):=by
    unfold FQ
    have e1:Nat.ble 1 s.length=true:=Nat.ble_eq_true_of_le dS
    have e2:Nat.ble s.length (2^46)=true:=Nat.ble_eq_true_of_le (by omega)
    rw [e1,e2];rfl
   show bd (FQ s letters) _=_
   rw [ht,aR]
   by_cases ha:s.all qq=true
   ·rw [if_pos ((Gc s).2 ha),contains_eq ha (by omega),aR]
    simp [oh,h0,hl,ha]
   ·rw [if_neg (fun e=>ha ((Gc s).1 e))]
    simp [oh,ha]
  ·rw [if_neg (by omega)]
   simp [oh,hl]
end Dn.S
