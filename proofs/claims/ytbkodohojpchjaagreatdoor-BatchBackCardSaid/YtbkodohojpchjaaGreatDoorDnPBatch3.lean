import Derived.Test.YtbkodohojpchjaaGreatDoorDnPBatch2
import Derived.Test.YtbkodohojpchjaaGreatDoorDnYV
/- BatchBack. Conditions: none. -/
set_option linter.unusedVariables false
set_option linter.unusedSimpArgs false
open Bool renaming false_eq_true→bB,not_true→sh
open Go.Lit renaming int→AI
open Go Dn
namespace Dn.S
theorem adg (l:List ab):dQ (wI l) λb=>b=true->l.length<=30:=by
 unfold wI;refine dQ.bd (P:=λw=>match w with| .inl _=>l.length<=30| .inr p=>p=false) ?_ ?_
 ·refine dQ.loop (λst=> ∃i:Nat,st=(i:Int)/\i<=l.length/\i<=30) (λst=>l.length-st.toNat) ⟨0,rfl,by omega,by omega⟩ ?_;rintro st ⟨i,rfl,h1,h2⟩;unfold Au;by_cases dO:i<l.length;rotate_left
  ·rw [if_neg (by omega)];exact .mk (by show l.length<=30;omega)
  rw [if_pos (by omega)];by_cases Om:i=30
  ·subst Om;rw [if_pos (by decide),cU,if_pos rfl];exact .mk rfl
  rw [if_neg (by omega),v7 dO];by_cases hp:(200:Int)<(l[i].Path.length:Int)
  ·rw [if_pos hp,cU,if_pos rfl];exact .mk rfl
  rw [if_neg hp,v7 dO,cU];by_cases hv:(1100:Int)<(l[i].Value.length:Int)
  ·rw [decide_eq_true hv,if_pos rfl];exact .mk rfl
  rw [decide_eq_false hv,if_neg (by simp),wrap64 (by omega) (by omega)];exact .mk ⟨⟨i+1,by simp,by omega,by omega⟩,by simp;omega⟩
 ·rintro (_|p) h
  ·exact .mk λ_=>h
  ·exact .mk λhp=>by rw [hp] at h;cases h
def plO (o:ab):dK:=⟨o.Client,o.Seq,o.Kind,o.Path,o.Value,o.Version,o.Session,o.Span⟩
theorem aj5 {l:List ab}(hl:l.length<=1000):Bo l=some (l.map plO):=by
 unfold Bo;refine dQ.eq (dQ.bd (P:=λw=>w=l.map plO) ?_ λw hw=> .mk hw);refine dQ.count (λk=>((l.take k).map plO,(k:Int))) l.length (λ_=>True) (by simp) trivial (λk hk _=> ?_) (λ_=> ?_)
 ·unfold Bn;simp only;rw [if_pos (by omega),v7 hk,if_pos (by simp;omega),wrap64 (by omega) (by omega)];refine .mk ⟨?_,trivial⟩;rw [List.take_add_one,List.getElem?_eq_getElem hk,List.map_append];rfl
 ·unfold Bn;simp only;rw [if_neg (by omega),List.take_length];exact .mk rfl
theorem agd {a:List dK}(hl:a.length<=1000):Av a a=some true:=by
 unfold Av;rw [decide_eq_true rfl];simp only [sh,bB,if_false];refine dQ.eq (dQ.bd (P:=λw=> ∃u,w= .inl u) ?_ ?_)
 ·refine dQ.loop (λst=> ∃i:Nat,st=(i:Int)/\i<=a.length) (λst=>a.length-st.toNat) ⟨0,rfl,by omega⟩ ?_;rintro st ⟨i,rfl,h1⟩;unfold Cz;by_cases dO:i<a.length;rotate_left
  ·rw [if_neg (by omega)];exact .mk ⟨(),rfl⟩
  rw [if_pos (by omega),v7 dO,v7 dO];simp only [decide_true,Bool.and_self,sh,bB,if_false];rw [wrap64 (by omega) (by omega)];exact .mk ⟨⟨i+1,by simp,by omega⟩,by simp;omega⟩
 ·rintro w ⟨u,rfl⟩;exact .mk rfl
theorem age {n:Int}(h:(AI .i64 n).wf=true):i64 n:=by have:=YR h;unfold i64;omega
theorem O6 (a:List ab)(a1:List UInt8)(hw: ∀y∈a,((AI .i64 y.Client).wf=true)/\((AI .i64 y.Seq).wf=true)/\((AI .i64 y.Kind).wf=true)/\(y.Path.length<=Go.maxLen)/\(y.Value.length<=Go.maxLen)/\((AI .i64 y.Version).wf=true)/\((AI .i64 y.Session).wf=true)/\((AI .i64 y.Span).wf=true)):qD a a1=some true:=by
 have hN: ∀o∈a,LX o:=by intro o ho n hn;obtain ⟨q1,q2,q3,_,_,q4,q5,q6⟩:=hw o ho;simp only [KI,List.mem_cons,List.not_mem_nil,or_false] at hn;rcases hn with rfl|rfl|rfl|rfl|rfl|rfl<;>exact age ‹_›
 unfold qD;rw [Tp];obtain ⟨b,eb,hb⟩:=adg a;rw [eb,cU];cases b with
 |false=>simp
 |true=>
 have hl:=hb rfl;simp only [sh,bB,if_false,cU];by_cases h6:(6000:Int)<(a1.length:Int)
 ·rw [decide_eq_true h6];simp
 rw [decide_eq_false h6];simp only [bB,if_false];have hs:a1.length<2^40:=by omega
 have tail:(bd (cW a1) λUC=>bd (dP UC.1) λV8=>(if !decide (UC.2=0) then some true else if V8.2=0 then some (decide (V8.1=a1)) else some false:Option Bool))=some true:=by
  obtain ⟨r,er,hr⟩:=BA hs;rw [er,cU];rcases hr with hr|rfl
  ·obtain ⟨l,e⟩:=r;simp only at hr;subst hr;obtain ⟨d1,d2,d3,d4⟩:=QX hs er;rw [FW d2 (by omega),if_neg (show¬10<l.length by omega),if_pos d3,cU];simp [d4]
  ·rw [FW (by simp) (by simp),cU];simp
 have Tq: ∀{X:Option Bool},X=some false->(bd X λw1=>if w1 then some false else bd (cW a1) λUC=>bd (dP UC.1) λV8=>bd ((if !decide (UC.2=0) then some true else if V8.2=0 then some (decide (V8.1=a1)) else some false:Option Bool)) λw2=>some w2)=some true:=by
  rintro X rfl;rw [cU,if_neg (by simp)];obtain ⟨r,er,_⟩:=BA hs;rw [er,cU] at tail⊢;cases he:dP r.1 with
  |none=>rw [he] at tail;cases tail
  |some x=>rw [he,cU] at tail;rw [cU,tail,cU]
 rw [FW hN (by omega),cU];by_cases wg:10<a.length
 ·rw [if_pos wg];obtain ⟨r,er,_⟩:=BA (s:=[]) (by simp);simp only [er,cU];exact Tq rfl
 rw [if_neg wg];by_cases hM: ∀o∈a,rl o
 ·rw [if_pos hM];simp only [Td hN hM (by omega),cU,decide_true,sh,bB,if_false,if_true,aj5 (l:=a) (by omega),agd (a:=a.map plO) (by rw [List.length_map];omega)];exact Tq rfl
 ·rw [if_neg hM];obtain ⟨r,er,_⟩:=BA (s:=[]) (by simp);simp only [er,cU];exact Tq rfl
end Dn.S
