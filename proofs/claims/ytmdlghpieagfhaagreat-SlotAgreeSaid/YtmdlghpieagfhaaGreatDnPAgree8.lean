import Derived.Test.YtmdlghpieagfhaaGreatDnPAgree7
/-
  Steps, and what good ones said. Conditions: none.
-/
set_option linter.unusedVariables false
set_option linter.unusedSimpArgs false
open List renaming getElem?_eq_getElem→cM,getElem_mem→sh
open Option.some renaming inj→AI
open Bool renaming false_eq_true→AT
open Go.IntKind renaming wrap→BY
open Go Dn
namespace Dn.S
theorem aiH {F T:Nat}{g:Gh}{s:ae}(hF:s.F=F)(hT:s.T=T){bad:List Bool}(hn:(bad.length:Int)=mS s){want:List (List UInt8)}{c:aj}{k:Nat}(h:Inv s bad want c k)(hk:k<=400)(Ud:bad.length<=30)(hw:want.length=bad.length)(hG:nB F T bad g c){y:dz}(hy:Kz y):aL (eF c y) λc'=>Inv s bad want c' (k+1)/\ ∃g',g.le g'/\nB F T bad g' c':=by
 suffices hs:aL (eF c y) λc'=> ∃g',g.le g'/\nB F T bad g' c' by obtain ⟨c1,e1,q1⟩:=NO h hk Ud hw hy;obtain ⟨c2,e2,q2⟩:=hs;rw [e1] at e2;obtain rfl:=AI e2;exact ⟨c1,e1,q1.inv,q2⟩
 have hp:=h.r9;have hl:=h.len;have gV: ∃g',g.le g'/\nB F T bad g' c:=⟨g,.refl g,hG⟩
 unfold eF;by_cases k3:y.Kind=3
 ·rw [if_pos k3];obtain ⟨b,eb,hb⟩:=GG h.r9 (λm hm=>(h.short m hm).s.r) hy.m.s;rw [eb,au];cases b with
  |false=>simp only [AT,if_false,au,eS];exact .mk gV
  |true=>rw [if_pos rfl,Vt hp (by simp)];simp only [au,eS];exact .mk ⟨g,.refl g,hG.say (aeS h.bY hG hp (λm hm=>(h.short m hm).s.r) hy.m.s eb)⟩
 rw [if_neg k3,mQ,au];by_cases hg:0<=y.I/\c.bY[y.I.toNat]? =some false;rotate_left
 ·rw [decide_eq_false hg,if_pos (by simp)];exact .mk gV
 rw [decide_eq_true hg,if_neg (by simp),iq (by omega),au];obtain ⟨hI,hb⟩:=hg;have XH:y.I=(y.I.toNat:Int):=by omega
 generalize y.I.toNat=i at hb XH;rw [h.bY] at hb;rw [XH];have U5:i<bad.length:=(List.getElem?_eq_some_iff.1 hb).1;have hi:i<c.N.length:=by omega
 have Hj:c.N[i]? =some c.N[i]:=cM hi;have KL:=h.nodes i _ Hj;have hNG:=hG.node i _ hb Hj;have qo: ∀{x:ar×List al},xn F T bad g (i:Int) x-> ∃g',g.le g'/\nB F T bad g' (BJ c i x.1 x.2):=λhx=>hG.put hi hx;by_cases k0:y.Kind=0
 ·simp only [k0,if_true];rw [RI,au];by_cases hj:0<=y.J/\y.J<(c.aV.length:Int)
  ·have C2:y.J.toNat<c.aV.length:=by omega
   rw [decide_eq_true hj,if_pos rfl,TL hj.1 C2];obtain ⟨x,ex,hx⟩:=VA hF hT hn KL (by omega) hG.ok hNG (h.short _ (sh C2)) (hG.r9 _ (sh C2));obtain ⟨x',ex',EB⟩:=AO KL (by omega) (h.short _ (sh C2));rw [ex] at ex';obtain rfl:=AI ex';rw [<-h.S] at ex;unfold cN;simp only [eS];rw [bA hi,ex,au,th (c:=⟨c.S,c.bY,c.Want,c.N,c.aV⟩) hi _ hp (by have:=EB.out;omega)];simp only [au,eS];exact .mk (qo hx)
  ·rw [decide_eq_false hj];simp only [AT,if_false,au,eS];exact .mk gV
 simp only [k0,if_false];by_cases k1:y.Kind=1
 ·simp only [k1,if_true];rw [bA hi];obtain ⟨ex,EB⟩:=yA KL (BY .i64 (c.N[i].A.View+1));have hx:=Vz KL hG.ok hNG (BY .i64 (c.N[i].A.View+1));rw [<-h.S] at ex;unfold dW;simp only [eS];rw [bA hi,ex,au,th (c:=⟨c.S,c.bY,c.Want,c.N,c.aV⟩) hi _ hp (by have:=EB.out;omega)];simp only [au,eS];exact .mk (qo hx)
 simp only [k1,if_false];by_cases k2:y.Kind=2
 ·simp only [k2,if_true];have hiw:i<c.Want.length:=by rw [h.Want];omega
  obtain ⟨x,ex,hx⟩:=VB KL (by omega) hG.ok hNG c.Want[i];obtain ⟨x',ex',EB⟩:=AP KL (by omega) c.Want[i];rw [ex] at ex';obtain rfl:=AI ex';rw [<-h.S] at ex;unfold dO;simp only [eS];rw [bA hi,bA hiw,ex,au,th (c:=⟨c.S,c.bY,c.Want,c.N,c.aV⟩) hi _ hp (by have:=EB.out;omega)];simp only [au,eS];exact .mk (qo hx)
 simp only [k2,if_false];by_cases k4:y.Kind=4
 ·simp only [k4,if_true];obtain ⟨ex,_⟩:=Cc KL;have hx:=abZ KL hG.ok hNG;rw [<-h.S] at ex;rw [bA hi,ex,au,bA hi];simp only [au];have hd: ∃g',g.le g'/\nB F T bad g' (BJ c i (kD s c.N[i]) []):=qo hx;have he:BJ c i (kD s c.N[i]) []=⟨c.S,c.bY,c.Want,c.N.set i (kD c.S c.N[i]),c.aV⟩:=by unfold BJ;rw [List.take_nil,List.append_nil,h.S]
  rw [he] at hd;exact .mk hd
 ·simp only [k4,if_false,au,eS];exact .mk gV
theorem RM {c:aj}{i:Nat}(hi:i<c.N.length)(hb:c.N.length=c.bY.length):fI c (i:Int)=some (if c.bY[i]? =some false/\c.N[i].L.bQ=true then (c.N[i].L.Value,true) else ([],false)):=by
 have U5:i<c.bY.length:=by omega
 have hn:c.N[i]? =some c.N[i]:=cM hi;cases anc:c.bY[i] with
 |true=>
  have Tj:c.bY[i]? =some true:=by rw [cM U5,anc]
  unfold fI;rw [RC c i false true Tj];simp [Tj]
 |false=>
  have Tj:c.bY[i]? =some false:=by rw [cM U5,anc]
  cases hd:c.N[i].L.bQ with
  |true=>rw [KA Tj hn hd];simp [Tj]
  |false=>rw [KC Tj hn hd];simp
theorem nB.Hf {F T:Nat}{bad:List Bool}{g:Gh}{c:aj}(h:nB F T bad g c)(hb:c.bY=bad){i:Nat}(hi:i<c.N.length)(hl:c.bY[i]? =some false/\c.N[i].L.bQ=true):g.L c.N[i].L.Value:=(h.node i _ (by rw [<-hb];exact hl.1) (cM hi)).done hl.2
end Dn.S
