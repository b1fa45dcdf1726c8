import Derived.Test.YtbkodohojpchjaaGreatDoorDnPBatch6
import Derived.Test.YtbkodohojpchjaaGreatDoorDnPSha2
/-
  BatchTells, but for the live question. Conditions: none.
-/
set_option linter.unusedVariables false
set_option linter.unusedSimpArgs false
open Bool renaming false_eq_true→aQ
open Go.Lit renaming int→sh
open Option.some renaming inj→AI
open Go Dn
namespace Dn.S
theorem FU (l:List ab):l.map M4=l.map vN:=rfl
theorem ady {s:List UInt8}(hs:s.length<2^45):jH s=some (Tc (gj s))/\mE s=some (Tc (gj s)):=by
 unfold jH mE;have h:(gj s).length<2^45:=by rw [pC];exact hs
 rw [O5 h,O4 h];exact ⟨rfl,rfl⟩
theorem Em (hA:o9=some true)(a:List ab)(a1:List UInt8)(hw: ∀y∈a,((sh .i64 y.Client).wf=true)/\((sh .i64 y.Seq).wf=true)/\((sh .i64 y.Kind).wf=true)/\(y.Path.length<=Go.maxLen)/\(y.Value.length<=Go.maxLen)/\((sh .i64 y.Version).wf=true)/\((sh .i64 y.Session).wf=true)/\((sh .i64 y.Span).wf=true)):gK a a1=some true:=by
 have hN: ∀o∈a,Df o:=Zu hw;unfold gK;rw [hA];obtain ⟨b,eb,hb⟩:=VW a;rw [eb,aL];cases b with
 |false=>simp
 |true=>
 have hl:=hb rfl;simp only [Bool.not_true,aQ,if_false,aL];by_cases h6:(6000:Int)<(a1.length:Int)
 ·rw [decide_eq_true h6];simp
 rw [decide_eq_false h6];simp only [aQ,if_false];have hs:a1.length<2^40:=by omega
 obtain ⟨d1,d2⟩:=ady (s:=a1) (by omega);obtain ⟨r,er,hr⟩:=OZ a1 hs;have hL:r.1.length<=10:=by
  rcases (OV hs) with ⟨r',er',h⟩
  rw [er] at er';obtain rfl:=AI er';rcases h with h|h
  ·exact (JK hs (l:=r.1) (er.trans (congrArg some (Prod.ext rfl h)))).1
  ·rw [h];simp
 have adz:=FQ hN (by omega:a.length<=100);rw [adz,aL,Xo (l:=a) (by omega),aL,FU,OY hN (by omega),adz,aL,er,aL,hr,aL];rw [if_pos rfl,if_pos rfl,if_pos rfl,Xo (l:=r.1) (by omega),aL,FU,Zs (by rw [List.length_map];omega),aL,if_pos rfl];simp only [if_true,d1,d2,aL,decide_true]
end Dn.S
