import Derived.Test.YtbkodohojpchjaaGreatDoorDnD
import Derived.Test.YtbkodohojpchjaaGreatDoorDnYT
import Derived.Laws.RangeString
/- Names and paths: what the functions yield. Conditions: none. -/
set_option linter.unusedVariables false
set_option linter.unusedSimpArgs false
open Go.Lib renaming indexByte→bN,trimS→BY
open ByteArray renaming getElem_eq_getElem_data→sh
open Nat renaming ble_eq_true_of_le→AI
open List renaming dropWhile_cons→AS,all_cons→AT
open Bool renaming true_and→By
open Go Dn
namespace Dn.S
def letters:List UInt8:=[97,98,99,100,101,102,103,104,105,106,107,108,109,110,111,112,113,114,115,116,117,118,119,120,121,122,48,49,50,51,52,53,54,55,56,57,45,95]
def uj (b:UInt8):Bool:=letters.contains b
def ra (s:List UInt8):Bool:=decide (s≠[])&&(decide (s.length<=30)&&s.all uj)
theorem aaY {b:UInt8}(h:uj b=true):b.toNat<128:=by
 have hm:b∈letters:=by simpa [uj] using h
 have: ∀x∈letters,x.toNat<128:=by decide
 exact this b hm
theorem WC (l:List UInt8)(c:UInt8):0<=bN l c↔c∈l:=by
 induction l with
 |nil=>simp [bN]
 |cons b l ih=>
  have TA:=Lib.indexByte_ge l c;unfold bN;by_cases hb:b=c
  ·subst hb;simp
  ·have CR:(b==c)=false:=by simpa using hb
   have rM: ¬c=b:=λe=>hb e.symm;simp only [CR,if_neg (show¬(false=true) by decide),List.mem_cons,rM,false_or,<-ih];by_cases hi:bN l c= -1
   ·simp [hi]
   ·have hi':(bN l c== -1)=false:=by simpa using hi
    simp only [hi',if_neg (show¬(false=true) by decide)];omega
theorem Qz {b:UInt8}(h:uj b=true):gO (b.toNat:Int)=some false:=by
 have cI:=aaY h;have hm:b∈letters:=by simpa [uj] using h
 unfold gO Di;have h1:decide ((0:Int)<=(b.toNat:Int)/\(b.toNat:Int)<128)=true:=decide_eq_true ⟨by omega,by omega⟩;have h2:((b.toNat:Int)).toNat.toUInt8=b:=by simp
 rw [h1,h2];have h3:decide (0<=bN letters b)=true:=decide_eq_true ((WC _ _).2 hm);simp only [cond_true,az];show some (!decide (0<=bN letters b))=_;rw [h3];rfl
theorem contains_eq {s:List UInt8}(h:s.all uj=true)(hl:s.length<2^60):fJ s gO=some false:=by
 have ke:Loop (jg gO true) ([.s s,.i .i64 0]:List MV)=some (.inl ()):=by
  refine bG.eq (bG.count (λk=>([.s s,.i .i64 (k:Int)]:List MV)) s.length (λ_=>True) rfl trivial (λk hk _=> ?_) (λ_=> ?_))
  ·have hb:uj s[k]=true:=List.all_eq_true.1 h _ (List.getElem_mem hk);have hd:Utf8.decode (⟨s.toArray⟩:ByteArray) k=(s[k].toNat,1):=by have:=decode_ascii (⟨s.toArray⟩:ByteArray) k (by simpa [ByteArray.size] using hk) (by simpa [sh] using aaY hb);simpa [sh] using this
   unfold jg;have h1:Kw ([.s s,.i .i64 (k:Int)]:List MV)=true:=by simp [Kw,rJ,Xu,hk]
   have h2:zA ([.s s,.i .i64 (k:Int)]:List MV)=(s[k].toNat:Int):=by simp [zA,rJ,Xu,hd]
   have h3:BU ([.s s,.i .i64 (k:Int)]:List MV)=[.s s,.i .i64 ((k+1:Nat):Int)]:=by simp [BU,rJ,Xu,hd]
   rw [if_pos h1,h2,Qz hb,az,if_neg (by decide),h3];exact .mk ⟨rfl,trivial⟩
  ·unfold jg;have h1:Kw ([.s s,.i .i64 (s.length:Int)]:List MV)=false:=by simp [Kw,rJ,Xu]
   rw [if_neg (by rw [h1];decide)];exact .mk rfl
 unfold fJ lB nH;rw [ke];rfl
theorem MD (s:List UInt8):BY s letters=[]↔s.all uj=true:=by
 unfold BY Lib.trimLeftS Lib.trimRightS;have hd: ∀l:List UInt8,l.dropWhile (letters.contains ·)=[]↔l.all uj=true:=by
  intro l;induction l with
  |nil=>simp
  |cons a l ih=>
   simp only [AS,AT];cases ha:letters.contains a with
   |true=>simp only [uj,ha,By,if_true];exact ih
   |false=>simp only [uj,ha,Bool.false_and,if_neg (show¬(false=true) by decide)];simp
 rw [hd,List.all_reverse];have hid: ∀l:List UInt8,(l.dropWhile (letters.contains ·)).all uj=true↔l.all uj=true:=by
  intro l;induction l with
  |nil=>simp
  |cons a l ih=>
   simp only [AS];cases ha:letters.contains a with
   |true=>simp only [if_true,AT,uj,ha,By];exact ih
   |false=>simp [ha]
 rw [hid,List.all_reverse]
theorem WD (s:List UInt8):qO s=some (ra s):=by
 unfold qO;rw [Qy];by_cases h0:s=[]
 ·simp [h0,ra]
 ·simp only [h0,decide_false,Bool.not_false,if_true];by_cases hl:s.length<=30
  ·rw [if_pos (by omega)];have eD:1<=s.length:=by cases s with|nil=>exact absurd rfl h0|cons=>simp
   have ht:Mj s letters=some (BY s letters):=by unfold Mj;have e1:Nat.ble 1 s.length=true:=AI eD;have e2:Nat.ble s.length (2^46)=true:=AI (by omega);rw [e1,e2];rfl
   show bd (Mj s letters) _=_;rw [ht,az];by_cases ha:s.all uj=true
   ·rw [if_pos ((MD s).2 ha),contains_eq ha (by omega),az];simp [ra,h0,hl,ha]
   ·rw [if_neg (λe=>ha ((MD s).1 e))];simp [ra,ha]
  ·rw [if_neg (by omega)];simp [ra,hl]
end Dn.S
