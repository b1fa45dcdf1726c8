import Derived.Test.YteakdlhhamgfbaaDoorDnC
import Derived.Test.YteakdlhhamgfbaaDoorDnYT
import Derived.Laws.RangeString
/-
  Names and paths: what the functions yield. Conditions: none.
-/
open Go Dn
set_option linter.unusedVariables false
set_option linter.unusedSimpArgs false
namespace Dn.S
def letters:List UInt8:=[97,98,99,100,101,102,103,104,105,106,107,108,109,110,111,112,113,114,115,116,117,118,119,120,121,122,48,49,50,51,52,53,54,55,56,57,45,95]
def eS (b:UInt8):Bool:=letters.contains b
def dr (s:List UInt8):Bool:=decide (s≠[])&&(decide (s.length≤30)&&s.all eS)
theorem Ef {b:UInt8} (h:eS b=true):b.toNat<128:=by
 have hm:b∈letters:=by simpa [eS] using h
 have: ∀x∈letters,x.toNat<128:=by decide
 exact this b hm
theorem Bj (l:List UInt8) (c:UInt8):0≤Lib.indexByte l c↔c∈l:=by
 induction l with
 |nil=>simp [Lib.indexByte]
 |cons b l ih=>
  have As:=Lib.indexByte_ge l c
  unfold Lib.indexByte
  by_cases hb:b=c
  ·subst hb;simp
  ·have rc:(b==c)=false:=by simpa using hb
   have lS: ¬c=b:=fun e=>hb e.symm
   simp only [rc,if_neg (show¬(false=true) by decide),List.mem_cons,lS,false_or,←ih]
   by_cases hi:Lib.indexByte l c= -1
   ·simp [hi]
   ·have K0:(Lib.indexByte l c== -1)=false:=by simpa using hi
    simp only [K0,if_neg (show¬(false=true) by decide)];omega
theorem xF {b:UInt8} (h:eS b=true):b8 (b.toNat:Int)=some false:=by
 have dJ:=Ef h
 have hm:b∈letters:=by simpa [eS] using h
 unfold b8 nt
 have h1:decide ((0:Int)≤(b.toNat:Int)∧(b.toNat:Int)<128)=true:=decide_eq_true ⟨by omega,by omega⟩
 have h2:((b.toNat:Int)).toNat.toUInt8=b:=by simp
 rw [h1,h2]
 have h3:decide (0≤Lib.indexByte letters b)=true:=decide_eq_true ((Bj _ _).2 hm)
 simp only [cond_true,bY]
 show some (!decide (0≤Lib.indexByte letters b))=_
 rw [h3];rfl
theorem contains_eq {s:List UInt8} (h:s.all eS=true) (hl:s.length<2^60):bF s b8=some false:=by
 have xG:Loop (cc b8 true) ([.s s,.i .i64 0]:List MV)=some (.inl ()):=by
  refine bQ.eq (bQ.count (fun k=>([.s s,.i .i64 (k:Int)]:List MV)) s.length (fun _=>True) rfl trivial (fun k hk _=> ?_) (fun _=> ?_))
  ·have hb:eS s[k]=true:=List.all_eq_true.1 h _ (List.getElem_mem hk)
   have hd:Utf8.decode (⟨s.toArray⟩:ByteArray) k=(s[k].toNat,1):=by
    have:=decode_ascii (⟨s.toArray⟩:ByteArray) k (by simpa [ByteArray.size] using hk) (by simpa [ByteArray.getElem_eq_getElem_data] using Ef hb)
    simpa [ByteArray.getElem_eq_getElem_data] using this
   unfold cc
   have h1:rH ([.s s,.i .i64 (k:Int)]:List MV)=true:=by simp [rH,iy,Bt,hk]
   have h2:lI ([.s s,.i .i64 (k:Int)]:List MV)=(s[k].toNat:Int):=by simp [lI,iy,Bt,hd]
   have h3:mW ([.s s,.i .i64 (k:Int)]:List MV)=[.s s,.i .i64 ((k+1:Nat):Int)]:=by simp [mW,iy,Bt,hd]
   rw [if_pos h1,h2,xF hb,bY,if_neg (by decide),h3]
   exact .mk ⟨rfl,trivial⟩
  ·unfold cc
   have h1:rH ([.s s,.i .i64 (s.length:Int)]:List MV)=false:=by simp [rH,iy,Bt]
   rw [if_neg (by rw [h1];decide)]
   exact .mk rfl
 unfold bF cG db
 rw [xG]
 rfl
theorem uV (s:List UInt8):Lib.trimS s letters=[]↔s.all eS=true:=by
 unfold Lib.trimS Lib.trimLeftS Lib.trimRightS
 have hd: ∀l:List UInt8,l.dropWhile (letters.contains ·)=[]↔l.all eS=true:=by
  intro l
  induction l with
  |nil=>simp
  |cons a l ih=>
   simp only [List.dropWhile_cons,List.all_cons]
   cases ha:letters.contains a with
   |true=>simp only [eS,ha,Bool.true_and,if_true];exact ih
   |false=>simp only [eS,ha,Bool.false_and,if_neg (show¬(false=true) by decide)];simp
 rw [hd,List.all_reverse]
 have hid: ∀l:List UInt8,(l.dropWhile (letters.contains ·)).all eS=true↔l.all eS=true:=by
  intro l
  induction l with
  |nil=>simp
  |cons a l ih=>
   simp only [List.dropWhile_cons]
   cases ha:letters.contains a with
   |true=>simp only [if_true,List.all_cons,eS,ha,Bool.true_and];exact ih
   |false=>simp [ha]
 rw [hid,List.all_reverse]
theorem uW (s:List UInt8):dN s=some (dr s):=by
 unfold dN
 rw [td]
 by_cases h0:s=[]
 ·simp [h0,dr]
 ·simp only [h0,decide_false,Bool.not_false,if_true]
  by_cases hl:s.length≤30
  ·rw [if_pos (by omega)]
   have ek:1≤s.length:=by cases s with|nil=>exact absurd rfl h0|cons=>simp
   have ht:sT s letters=some (Lib.trimS s letters):=by
    unfold sT
    have e1:Nat.ble 1 s.length=true:=Nat.ble_eq_true_of_le ek
    have e2:Nat.ble s.length (2^46)=true:=Nat.ble_eq_true_of_le (by omega)
    rw [e1,e2];rfl
   show bd (sT s letters) _=_
   rw [ht,bY]
   by_cases ha:s.all eS=true
   ·rw [if_pos ((uV s).2 ha),contains_eq ha (by omega),bY]
    simp [dr,h0,hl,ha]
   ·rw [if_neg (fun e=>ha ((uV s).1 e))]
    simp [dr,ha]
  ·rw [if_neg (by omega)]
   simp [dr,hl]
theorem Eg (b:UInt8):eS b=decide ((97≤b.toNat∧b.toNat≤122)∨(48≤b.toNat∧b.toNat≤57)∨b.toNat=45∨b.toNat=95):=by
 have key: ∀n,n<256→eS (UInt8.ofNat n)=decide ((97≤n∧n≤122)∨(48≤n∧n≤57)∨n=45∨n=95):=by decide+kernel
 have:=key b.toNat b.toNat_lt
 simpa using this
theorem pO (s:List UInt8) (hl:s.length<2^60):il s=some (dr s):=by
 obtain ⟨r,e,hr⟩:=te (body:=gq s) s.length (fun k=>eS (s.getD k 0)=true) false (fun k hk _=>by
  have hc: ∀(b:UInt8) (K:Bool→Option (Int⊕(Unit⊕Bool))),bd (
   if (97:Int)≤(b.toNat:Int) then
   if (b.toNat:Int)≤122 then
   some true
   else
   if (48:Int)≤(b.toNat:Int) then
   if (b.toNat:Int)≤57 then
   some true
   else
   if (b.toNat:Int)=45 then
   some true
   else
   some (decide ((b.toNat:Int)=95))
   else
   if (b.toNat:Int)=45 then
   some true
   else
   some (decide ((b.toNat:Int)=95))
   else
   if (48:Int)≤(b.toNat:Int) then
   if (b.toNat:Int)≤57 then
   some true
   else
   if (b.toNat:Int)=45 then
   some true
   else
   some (decide ((b.toNat:Int)=95))
   else
   if (b.toNat:Int)=45 then
   some true
   else
   some (decide ((b.toNat:Int)=95)):Option Bool) K=K (eS b):=by
   intro b K
   rw [Eg]
   generalize b.toNat=n
   repeat' split
   all_goals rw [bY]
   all_goals congr 1
   all_goals first|(symm;apply decide_eq_true;omega)|(rw [decide_eq_decide];omega)
  unfold gq
  rw [if_pos (by omega),if_pos ⟨by omega,by omega⟩,hc,Int.toNat_natCast]
  constructor
  ·intro h;rw [h];simp only [Bool.not_true,Bool.false_eq_true,if_false];rw [wrap64 (by omega) (by omega)];rfl
  ·intro h
   have h:eS (s.getD k 0)=false:=by simpa using h
   rw [h];rfl) (by
  unfold gq
  rw [if_neg (by omega)])
 unfold il
 rw [e,bY]
 have iV:(∀k,k<s.length→eS (s.getD k 0)=true)↔s.all eS=true:=by
  rw [List.all_eq_true]
  constructor
  ·intro h x hx
   obtain ⟨k,hk,rfl⟩:=List.mem_iff_getElem.1 hx
   have:=h k hk
   rwa [List.getD_eq_getElem?_getD,List.getElem?_eq_getElem hk] at this
  ·intro h k hk
   rw [List.getD_eq_getElem?_getD,List.getElem?_eq_getElem hk]
   exact h _ (List.getElem_mem hk)
 rcases hr with ⟨rfl,h⟩|⟨rfl,k,hk,h⟩
 ·have h:=iV.1 h
  simp only [td]
  by_cases h0:s=[]
  ·subst h0;simp [dr]
  ·have ek:1≤s.length:=by cases s with|nil=>exact absurd rfl h0|cons=>simp
   rw [if_pos (by omega)]
   simp only [dr,h0,ne_eq,not_false_eq_true,decide_true,h,Bool.and_true,Bool.true_and,Option.some.injEq,decide_eq_decide]
   omega
 ·have:s.all eS=false:=by
   rw [Bool.eq_false_iff];intro hh;exact h (iV.2 hh k hk)
  simp [dr,this]
end Dn.S
