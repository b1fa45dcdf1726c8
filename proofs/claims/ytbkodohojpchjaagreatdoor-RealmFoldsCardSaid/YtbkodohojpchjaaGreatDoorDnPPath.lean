import Derived.Test.YtbkodohojpchjaaGreatDoorDnC
import Derived.Test.YtbkodohojpchjaaGreatDoorDnYT
import Derived.Laws.RangeString
/-
  Names and paths: what the functions yield. Conditions: none.
-/
set_option linter.unusedVariables false
set_option linter.unusedSimpArgs false
open Go.Lib renaming indexByte→c9,trimS→No
open ByteArray renaming getElem_eq_getElem_data→sh
open List renaming getD_eq_getElem?_getD→AI,getElem?_eq_getElem→AS,dropWhile_cons→By,all_eq_true→IN,getElem_mem→IS,all_cons→IT
open Nat renaming ble_eq_true_of_le→AT
open Bool renaming true_and→BY
open Option.some renaming injEq→OF
open Go Dn
namespace Dn.S
def letters:List UInt8:=[97,98,99,100,101,102,103,104,105,106,107,108,109,110,111,112,113,114,115,116,117,118,119,120,121,122,48,49,50,51,52,53,54,55,56,57,45,95]
def my (b:UInt8):Bool:=letters.contains b
def gV (s:List UInt8):Bool:=decide (s≠[])&&(decide (s.length<=30)&&s.all my)
theorem abt {b:UInt8}(h:my b=true):b.toNat<128:=by
 have hm:b∈letters:=by simpa [my] using h
 have: ∀x∈letters,x.toNat<128:=by decide
 exact this b hm
theorem Xg (l:List UInt8)(c:UInt8):0<=c9 l c↔c∈l:=by
 induction l with
 |nil=>simp [c9]
 |cons b l ih=>
  have hge:=Lib.indexByte_ge l c;unfold c9;by_cases hb:b=c
  ·subst hb;simp
  ·have EU:(b==c)=false:=by simpa using hb
   have vF: ¬c=b:=λe=>hb e.symm;simp only [EU,if_neg (show¬(false=true) by decide),List.mem_cons,vF,false_or,<-ih];by_cases hi:c9 l c= -1
   ·simp [hi]
   ·have hi':(c9 l c== -1)=false:=by simpa using hi
    simp only [hi',if_neg (show¬(false=true) by decide)];omega
theorem Rc {b:UInt8}(h:my b=true):iH (b.toNat:Int)=some false:=by
 have dY:=abt h;have hm:b∈letters:=by simpa [my] using h
 unfold iH Dx;have h1:decide ((0:Int)<=(b.toNat:Int)/\(b.toNat:Int)<128)=true:=decide_eq_true ⟨by omega,by omega⟩;have h2:((b.toNat:Int)).toNat.toUInt8=b:=by simp
 rw [h1,h2];have h3:decide (0<=c9 letters b)=true:=decide_eq_true ((Xg _ _).2 hm);simp only [cond_true,av];show some (!decide (0<=c9 letters b))=_;rw [h3];rfl
theorem contains_eq {s:List UInt8}(h:s.all my=true)(hl:s.length<2^60):gu s iH=some false:=by
 have cw:Loop (jn iH true) ([.s s,.i .i64 0]:List MV)=some (.inl ()):=by
  refine aO.eq (aO.count (λk=>([.s s,.i .i64 (k:Int)]:List MV)) s.length (λ_=>True) rfl trivial (λk hk _=> ?_) (λ_=> ?_))
  ·have hb:my s[k]=true:=IN.1 h _ (IS hk);have hd:Utf8.decode (⟨s.toArray⟩:ByteArray) k=(s[k].toNat,1):=by have:=decode_ascii (⟨s.toArray⟩:ByteArray) k (by simpa [ByteArray.size] using hk) (by simpa [sh] using abt hb);simpa [sh] using this
   unfold jn;have h1:KF ([.s s,.i .i64 (k:Int)]:List MV)=true:=by simp [KF,se,XT,hk]
   have h2:zD ([.s s,.i .i64 (k:Int)]:List MV)=(s[k].toNat:Int):=by simp [zD,se,XT,hd]
   have h3:Cj ([.s s,.i .i64 (k:Int)]:List MV)=[.s s,.i .i64 ((k+1:Nat):Int)]:=by simp [Cj,se,XT,hd]
   rw [if_pos h1,h2,Rc hb,av,if_neg (by decide),h3];exact .mk ⟨rfl,trivial⟩
  ·unfold jn;have h1:KF ([.s s,.i .i64 (s.length:Int)]:List MV)=false:=by simp [KF,se,XT]
   rw [if_neg (by rw [h1];decide)];exact .mk rfl
 unfold gu lC nK;rw [cw];rfl
theorem MH (s:List UInt8):No s letters=[]↔s.all my=true:=by
 unfold No Lib.trimLeftS Lib.trimRightS;have hd: ∀l:List UInt8,l.dropWhile (letters.contains ·)=[]↔l.all my=true:=by
  intro l;induction l with
  |nil=>simp
  |cons a l ih=>
   simp only [By,IT];cases ha:letters.contains a with
   |true=>simp only [my,ha,BY,if_true];exact ih
   |false=>simp only [my,ha,Bool.false_and,if_neg (show¬(false=true) by decide)];simp
 rw [hd,List.all_reverse];have hid: ∀l:List UInt8,(l.dropWhile (letters.contains ·)).all my=true↔l.all my=true:=by
  intro l;induction l with
  |nil=>simp
  |cons a l ih=>
   simp only [By];cases ha:letters.contains a with
   |true=>simp only [if_true,IT,my,ha,BY];exact ih
   |false=>simp [ha]
 rw [hid,List.all_reverse]
theorem Xh (s:List UInt8):rf s=some (gV s):=by
 unfold rf;rw [Gz];by_cases h0:s=[]
 ·simp [h0,gV]
 ·simp only [h0,decide_false,Bool.not_false,if_true];by_cases hl:s.length<=30
  ·rw [if_pos (by omega)];have fm:1<=s.length:=by cases s with|nil=>exact absurd rfl h0|cons=>simp
   have ht:Mg s letters=some (No s letters):=by unfold Mg;have e1:Nat.ble 1 s.length=true:=AT fm;have e2:Nat.ble s.length (2^46)=true:=AT (by omega);rw [e1,e2];rfl
   show bd (Mg s letters) _=_;rw [ht,av];by_cases ha:s.all my=true
   ·rw [if_pos ((MH s).2 ha),contains_eq ha (by omega),av];simp [gV,h0,hl,ha]
   ·rw [if_neg (λe=>ha ((MH s).1 e))];simp [gV,ha]
  ·rw [if_neg (by omega)];simp [gV,hl]
theorem abu (b:UInt8):my b=decide ((97<=b.toNat/\b.toNat<=122)\/(48<=b.toNat/\b.toNat<=57)\/b.toNat=45\/b.toNat=95):=by
 have key: ∀n,n<256->my (UInt8.ofNat n)=decide ((97<=n/\n<=122)\/(48<=n/\n<=57)\/n=45\/n=95):=by decide+kernel
 have:=key b.toNat b.toNat_lt;simpa using this
theorem Oz (s:List UInt8)(hl:s.length<2^60):tl s=some (gV s):=by
 obtain ⟨r,e,hr⟩:=EA (body:=oZ s) s.length (λk=>my (s.getD k 0)=true) false (λk hk _=>by
  have hc: ∀(b:UInt8) (K:Bool->Option (Int⊕(Unit⊕Bool))),bd (if (97:Int)<=(b.toNat:Int) then
   if (b.toNat:Int)<=122 then
   some true
   else
   if (48:Int)<=(b.toNat:Int) then
   if (b.toNat:Int)<=57 then
   some true
   else
   if (b.toNat:Int)=45 then
   some true
   else
   some (decide ((b.toNat:Int)=95))
   else
   if (b.toNat:Int)=45 then
   some true
   else
   some (decide ((b.toNat:Int)=95))
   else
   if (48:Int)<=(b.toNat:Int) then
   if (b.toNat:Int)<=57 then
   some true
   else
   if (b.toNat:Int)=45 then
   some true
   else
   some (decide ((b.toNat:Int)=95))
   else
   if (b.toNat:Int)=45 then
   some true
   else
   some (decide ((b.toNat:Int)=95)):Option Bool) K=K (my b):=by
   intro b K;rw [abu];generalize b.toNat=n;repeat' split
   all_goals rw [av]
   all_goals congr 1
   all_goals first|(symm;apply decide_eq_true;omega)|(rw [decide_eq_decide];omega)
  unfold oZ;rw [if_pos (by omega),if_pos ⟨by omega,by omega⟩,hc,Int.toNat_natCast];constructor
  ·intro h;rw [h];simp only [Bool.not_true,Bool.false_eq_true,if_false];rw [wrap64 (by omega) (by omega)];rfl
  ·intro h;have h:my (s.getD k 0)=false:=by simpa using h
   rw [h];rfl) (by
  unfold oZ;rw [if_neg (by omega)])
 unfold tl;rw [e,av];have nm:(∀k,k<s.length->my (s.getD k 0)=true)↔s.all my=true:=by
  rw [IN];constructor
  ·intro h x hx;obtain ⟨k,hk,rfl⟩:=List.mem_iff_getElem.1 hx;have:=h k hk;rwa [AI,AS hk] at this
  ·intro h k hk;rw [AI,AS hk];exact h _ (IS hk)
 rcases hr with ⟨rfl,h⟩|⟨rfl,k,hk,h⟩
 ·have h:=nm.1 h;simp only [Gz];by_cases h0:s=[]
  ·subst h0;simp [gV]
  ·have fm:1<=s.length:=by cases s with|nil=>exact absurd rfl h0|cons=>simp
   rw [if_pos (by omega)];simp only [gV,h0,ne_eq,not_false_eq_true,decide_true,h,Bool.and_true,BY,OF,decide_eq_decide];omega
 ·have:s.all my=false:=by rw [Bool.eq_false_iff];intro hh;exact h (nm.2 hh k hk)
  simp [gV,this]
end Dn.S
