import Derived.Test.YtbkodohojpchjaaGreatDoorDnPShelf
/-
  Shelves: which may be, which are alike; ShelfMay. Conditions: none.
-/
open Go Dn
set_option linter.unusedVariables false
set_option linter.unusedSimpArgs false
namespace Dn.S
theorem ID {l:List (List UInt8)} {p:List UInt8} (h:0≤tH l p):(tH l p).toNat<l.length:=by
 unfold tH at h⊢
 cases hf:l.findIdx? (fun x=>decide (x=p)) with
 |none=>rw [hf] at h;simp at h
 |some k=>
  rw [List.findIdx?_eq_some_iff_getElem] at hf
  obtain ⟨hk,_⟩:=hf
  simpa using hk
def cK (p:List UInt8):List UInt8×Int:=if bw p then (if p=[47] then ([],6) else (sd (aP p).dropLast,0)) else ([],13)
def N3 (L:List ae) (p:List UInt8):Bool:=decide (0≤tH (L.map (·.Path)) p)&&match L[(tH (L.map (·.Path)) p).toNat]? with
 |some y=>decide (y.bj=0)
 |none=>false
def sN (L:List ae) (n:ae):Bool:=if (cK n.Path).2=0 then N3 L (cK n.Path).1 else decide (n.bj=0)
theorem Tp (s:av) (n:ae) (hl:s.L.length<2^40):iR s n=some (sN s.L n):=by
 unfold iR
 rw [AY,aM]
 show (if !decide ((cK n.Path).2=0) then _ else bd (cA s.L (fun u=>eB u (cK n.Path).1)) _)=_
 unfold sN
 by_cases h:(cK n.Path).2=0
 ·have hi0:=To s.L (fun u=>eB u (cK n.Path).1) (cK n.Path).1 (fun x=>rfl) hl
  rw [decide_eq_true h,if_neg (by decide),if_pos h,hi0,aM,Hc]
  unfold N3
  by_cases hi:0≤tH (s.L.map (·.Path)) (cK n.Path).1
  ·have cz:=ID hi
   rw [List.length_map] at cz
   rw [if_pos hi,yS hi cz,List.getElem?_eq_getElem cz,decide_eq_true hi];rfl
  ·rw [if_neg hi,decide_eq_false hi];rfl
 ·rw [decide_eq_false h,if_pos (by decide),if_neg h]
def Tq (L:List ae) (k:Nat):Bool:=match L[k]? with
 |none=>false
 |some x=>(bw x.Path&&(decide (x.Value.length≤1000)&&(decide (0≤x.Version)&&(decide (x.Version≤1000000000)&&(decide (0≤x.bj)&&sN L x)))))&&
  (decide (k=0)||match L[k-1]? with
   |some y=>mF y.Path x.Path
   |none=>false)
def yU (L:List ae):Bool:=(decide (1≤L.length)&&decide (L.length≤200))&&(decide ((L.map (·.Path)).head? =some [47])&&(List.range L.length).all (Tq L))
theorem FU (s:av) (hl:s.L.length<2^40):oN s=some (yU s.L):=by
 unfold oN yU
 by_cases h1:1≤s.L.length
 rotate_left
 ·rw [if_pos (by omega),aM,if_pos rfl,decide_eq_false h1];rfl
 by_cases h2:s.L.length≤200
 rotate_left
 ·rw [if_neg (by omega),if_pos (by omega),aM,if_pos rfl,decide_eq_false h2];simp
 have hhd:(s.L.map (·.Path)).head? =some (s.L[0]'(by omega)).Path:=by
  rw [List.head?_map,List.head?_eq_getElem?,List.getElem?_eq_getElem (by omega)];rfl
 rw [if_neg (by omega),if_neg (by omega),V9 (by omega),aM,hhd,decide_eq_true h1,decide_eq_true h2]
 by_cases h3:(s.L[0]'(by omega)).Path=[47]
 rotate_left
 ·simp [h3]
 rw [decide_eq_true h3,if_neg (by decide)]
 obtain ⟨r,e,hr⟩:=Ky (body:=lK s) s.L.length (fun k=>Tq s.L k=true) false (fun k hk _=>by
  have lW:Tq s.L k=((bw (s.L[k]).Path&&(decide ((s.L[k]).Value.length≤1000)&&(decide (0≤(s.L[k]).Version)&&(decide ((s.L[k]).Version≤1000000000)&&(decide (0≤(s.L[k]).bj)&&sN s.L s.L[k])))))&&
   (decide (k=0)||match s.L[k-1]? with
    |some y=>mF y.Path (s.L[k]).Path
    |none=>false)):=by
   unfold Tq;rw [List.getElem?_eq_getElem hk]
  rw [lW]
  unfold lK
  rw [if_pos (by omega),cg hk,o7,aM]
  generalize hx:s.L[k]=x
  have hg:=Tp s x hl
  cases c1:bw x.Path with
  |false=>simp [aM]
  |true=>
  by_cases c2:x.Value.length≤1000
  rotate_left
  ·rw [if_neg (by decide),if_pos (by omega)];simp [aM,c2]
  by_cases c3:0≤x.Version
  rotate_left
  ·rw [if_neg (by decide),if_neg (by omega),if_pos (by omega)];simp [aM,c3]
  by_cases c4:x.Version≤1000000000
  rotate_left
  ·rw [if_neg (by decide),if_neg (by omega),if_neg (by omega),if_pos (by omega)];simp [aM,c4]
  by_cases c5:0≤x.bj
  rotate_left
  ·rw [if_neg (by decide),if_neg (by omega),if_neg (by omega),if_neg (by omega),if_pos (by omega)];simp [aM,c5]
  rw [if_neg (by decide),if_neg (by omega),if_neg (by omega),if_neg (by omega),if_neg (by omega),hg,aM,aM]
  cases c6:sN s.L x with
  |false=>simp
  |true=>
  rw [if_neg (by decide)]
  by_cases O3:k=0
  ·subst O3
   rw [if_neg (by omega),aM,if_neg (by decide),wrap64 (by omega) (by omega)]
   simp [c2,c3,c4,c5]
  ·have LR:k-1<s.L.length:=by omega
   rw [if_pos (by omega),wrap64 (by omega) (by omega),show (k:Int)-1=((k-1:Nat):Int) by omega,cg LR,KD,aM,aM,List.getElem?_eq_getElem LR]
   cases c7:mF (s.L[k-1]).Path x.Path with
   |false=>simp [O3,c7]
   |true=>rw [if_neg (by decide),wrap64 (by omega) (by omega)];simp [c2,c3,c4,c5,c7]) (by
  unfold lK
  rw [if_neg (by omega)])
 rw [e,aM]
 have pL:(∀k,k<s.L.length→Tq s.L k=true)↔(List.range s.L.length).all (Tq s.L)=true:=by
  rw [List.all_eq_true]
  exact ⟨fun h k hk=>h k (List.mem_range.1 hk),fun h k hk=>h k (List.mem_range.2 hk)⟩
 rcases hr with ⟨rfl,h⟩|⟨rfl,k,hk,h⟩
 ·rw [pL.1 h];simp [h3]
 ·have:(List.range s.L.length).all (Tq s.L)=false:=by
   rw [Bool.eq_false_iff];intro hh;exact h (pL.2 hh k hk)
  rw [this];simp
end Dn.S
