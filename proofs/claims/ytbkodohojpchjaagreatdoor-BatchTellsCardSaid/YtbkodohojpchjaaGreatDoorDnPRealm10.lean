import Derived.Test.YtbkodohojpchjaaGreatDoorDnPRealm9
/-
  Realms as the document's: an order. Conditions: none.
-/
set_option linter.unusedVariables false
set_option linter.unusedSimpArgs false
open Go Dn
namespace Dn.S
def vN (o:ab):aF:=⟨o.Client,o.Seq,o.Kind,o.Path,o.Value,o.Version,o.Session,o.Span⟩
theorem SX (s:List UInt8)(c:Int)(hs:s.length<2^40):dC s c=some (s.any λb=>decide ((b.toNat:Int)=c)):=by
 unfold dC;have adp:cm (Loop (sE s c) 0) λx=>(x= .inl ()/\s.any (λb=>decide ((b.toNat:Int)=c))=false)\/(x= .inr true/\s.any (λb=>decide ((b.toNat:Int)=c))=true):=by
  refine cm.count (λk=>(k:Int)) s.length (λk=> ∀j (hj:j<s.length),j<k->((s[j]).toNat:Int)≠c) rfl (λj hj h=>by omega) (λk hk hp=> ?_) (λhp=> ?_)
  ·unfold sE;rw [if_pos (by omega),if_pos (by omega),Int.toNat_natCast,List.getD_eq_getElem?_getD,List.getElem?_eq_getElem hk,Option.getD_some];by_cases he:((s[k]).toNat:Int)=c
   ·rw [if_pos he];exact .mk (.inr ⟨rfl,List.any_eq_true.2 ⟨s[k],List.getElem_mem hk,decide_eq_true he⟩⟩)
   ·rw [if_neg he,wrap64 (by omega) (by omega)];refine .mk ⟨by omega,λj hj hjk=> ?_⟩;by_cases JT:j=k
    ·subst JT;exact he
    ·exact hp j hj (by omega)
  ·unfold sE;rw [if_neg (by omega)];refine .mk (.inl ⟨rfl,?_⟩);rw [List.any_eq_false];intro x hx;obtain ⟨j,hj,rfl⟩:=List.mem_iff_getElem.1 hx;simpa using hp j hj hj
 obtain ⟨x,hx,h|h⟩:=adp
 ·rw [hx,h.1,h.2];rfl
 ·rw [hx,h.1,h.2];rfl
theorem ja (o:ab)(k:Int)(u:List UInt8)(hu:sD k=some u)(hl:u.length<2^40)(hk:o.Kind=k){v:ab}(hv:aK o=some v)(h:((decide (o.Client=v.Client))&&((decide (o.Seq=v.Seq))&&((decide (o.Kind=v.Kind))&&((decide (o.Path=v.Path))&&((decide (o.Value=v.Value))&&((decide (o.Version=v.Version))&&((decide (o.Session=v.Session))&&(decide (o.Span=v.Span)))))))))= (((u.any λb=>decide ((b.toNat:Int)=112))||decide (o.Path=[]))&&(((u.any λb=>decide ((b.toNat:Int)=118))||decide (o.Value=[]))&&(((u.any λb=>decide ((b.toNat:Int)=110))||decide (o.Version=0))&& (((u.any λb=>decide ((b.toNat:Int)=115))||decide (o.Session=0))&&((u.any λb=>decide ((b.toNat:Int)=116))||decide (o.Span=0))))))): (bd (sD o.Kind) λrA=>bd (bd (dC rA 112) λcT=>if cT then bd (dC rA 118) λfL=>if fL then some true else some (decide (o.Value=([]:List UInt8))) else if o.Path=([]:List UInt8) then bd (dC rA 118) λmW=>if mW then some true else some (decide (o.Value=([]:List UInt8))) else some false:Option Bool) λw1=>
  bd (if w1 then bd (dC rA 110) λsF=>if sF then bd (dC rA 115) λxy=>if xy then bd (dC rA 116) λxz=>if xz then some true else some (decide (o.Span=0)) else if o.Session=0 then bd (dC rA 116) λy9=>if y9 then some true else some (decide (o.Span=0)) else some false
   else if o.Version=0 then bd (dC rA 115) λPl=>if Pl then bd (dC rA 116) λR9=>if R9 then some true else some (decide (o.Span=0)) else if o.Session=0 then bd (dC rA 116) λBP=>if BP then some true else some (decide (o.Span=0)) else some false else some false else some false:Option Bool) λw2=>some w2)=
 bd (aK o) λrA=>some ((decide (o.Client=rA.Client))&&((decide (o.Seq=rA.Seq))&&((decide (o.Kind=rA.Kind))&&((decide (o.Path=rA.Path))&&((decide (o.Value=rA.Value))&&((decide (o.Version=rA.Version))&&((decide (o.Session=rA.Session))&&(decide (o.Span=rA.Span))))))))):=by
 rw [hv,aL,h,hk,hu,aL];simp only [SX u _ hl,aL];generalize (u.any λb=>decide ((b.toNat:Int)=112))=p1;generalize (u.any λb=>decide ((b.toNat:Int)=118))=p2;generalize (u.any λb=>decide ((b.toNat:Int)=110))=p3;generalize (u.any λb=>decide ((b.toNat:Int)=115))=p4;generalize (u.any λb=>decide ((b.toNat:Int)=116))=p5;by_cases q1:o.Path=[]<;>by_cases q3:o.Version=0<;>by_cases q4:o.Session=0<;>cases p1<;>cases p2<;>cases p3<;>cases p4<;>cases p5<;>simp [q1,q3,q4];all_goals (by_cases q2:o.Value=[]<;>simp [q2])
theorem OW (o:ab):qf (vN o)=some (SV o):=by
 rw [<-JM];unfold qf cE;show (bd (if o.Client<0 then some true else if (1000:Int)<o.Client then some true else if o.Seq<1 then some true else if (1000000000:Int)<o.Seq then some true else if o.Kind<0 then some true else if (11:Int)<o.Kind then some true else if (100:Int)<(o.Path.length:Int) then some true else some (decide ((1000:Int)<(o.Value.length:Int)))) λw=>if w then some false else _)=_;by_cases h1:o.Client<0
 ·rw [if_pos h1,aL,if_pos rfl,if_neg (by omega),aL,if_neg (by decide),aL]
 rw [if_neg h1,if_pos (show (0:Int)<=o.Client by omega)];by_cases h2:(1000:Int)<o.Client
 ·rw [if_pos h2,aL,if_pos rfl,if_neg (by omega),aL,if_neg (by decide),aL]
 rw [if_neg h2,if_pos (show o.Client<=1000 by omega)];by_cases h3:o.Seq<1
 ·rw [if_pos h3,aL,if_pos rfl,if_neg (by omega),aL,if_neg (by decide),aL]
 rw [if_neg h3,if_pos (show (1:Int)<=o.Seq by omega),aL];by_cases h4:(1000000000:Int)<o.Seq
 ·rw [if_pos h4,aL,if_pos rfl,decide_eq_false (by omega),if_neg (by decide),aL]
 rw [if_neg h4,decide_eq_true (show o.Seq<=1000000000 by omega),if_pos (show true=true from rfl)];by_cases h5:o.Kind<0
 ·rw [if_pos h5,aL,if_pos rfl,if_neg (by omega),aL]
 rw [if_neg h5,if_pos (show (0:Int)<=o.Kind by omega)];by_cases h6:(11:Int)<o.Kind
 ·rw [if_pos h6,aL,if_pos rfl,if_neg (by omega),aL]
 rw [if_neg h6,if_pos (show o.Kind<=11 by omega)];by_cases h7:(100:Int)<(o.Path.length:Int)
 ·rw [if_pos h7,aL,if_pos rfl,if_neg (by omega),aL]
 rw [if_neg h7,aL,if_pos (show (o.Path.length:Int)<=100 by omega)];by_cases h8:(1000:Int)<(o.Value.length:Int)
 ·rw [decide_eq_true h8,if_pos rfl,if_neg (by omega),aL]
 rw [decide_eq_false h8,if_neg (by decide),if_pos (show (o.Value.length:Int)<=1000 by omega)];refine Eq.trans ?_ (adh _).symm;have hk:o.Kind=0\/o.Kind=1\/o.Kind=2\/o.Kind=3\/o.Kind=4\/o.Kind=5\/o.Kind=6\/o.Kind=7\/o.Kind=8\/o.Kind=9\/o.Kind=10\/o.Kind=11:=by omega
 rcases hk with h|h|h|h|h|h|h|h|h|h|h|h
 ·exact ja o _ [] rfl (by decide) h (v:=⟨o.Client,o.Seq,o.Kind,[],[],0,0,0⟩) (by unfold aK;rw [h];rfl) (by simp)
 ·exact ja o _ [112,118,115] rfl (by decide) h (v:=⟨o.Client,o.Seq,o.Kind,o.Path,o.Value,0,o.Session,0⟩) (by unfold aK;rw [h];rfl) (by simp)
 ·exact ja o _ [112] rfl (by decide) h (v:=⟨o.Client,o.Seq,o.Kind,o.Path,[],0,0,0⟩) (by unfold aK;rw [h];rfl) (by simp)
 ·exact ja o _ [112,118,110] rfl (by decide) h (v:=⟨o.Client,o.Seq,o.Kind,o.Path,o.Value,o.Version,0,0⟩) (by unfold aK;rw [h];rfl) (by simp)
 ·exact ja o _ [112,110] rfl (by decide) h (v:=⟨o.Client,o.Seq,o.Kind,o.Path,[],o.Version,0,0⟩) (by unfold aK;rw [h];rfl) (by simp)
 ·exact ja o _ [112] rfl (by decide) h (v:=⟨o.Client,o.Seq,o.Kind,o.Path,[],0,0,0⟩) (by unfold aK;rw [h];rfl) (by simp)
 ·exact ja o _ [115,116] rfl (by decide) h (v:=⟨o.Client,o.Seq,o.Kind,[],[],0,o.Session,o.Span⟩) (by unfold aK;rw [h];rfl) (by simp)
 ·exact ja o _ [115] rfl (by decide) h (v:=⟨o.Client,o.Seq,o.Kind,[],[],0,o.Session,0⟩) (by unfold aK;rw [h];rfl) (by simp)
 ·exact ja o _ [115] rfl (by decide) h (v:=⟨o.Client,o.Seq,o.Kind,[],[],0,o.Session,0⟩) (by unfold aK;rw [h];rfl) (by simp)
 ·exact ja o _ [116] rfl (by decide) h (v:=⟨o.Client,o.Seq,o.Kind,[],[],0,0,o.Span⟩) (by unfold aK;rw [h];rfl) (by simp)
 ·exact ja o _ [112] rfl (by decide) h (v:=⟨o.Client,o.Seq,o.Kind,o.Path,[],0,0,0⟩) (by unfold aK;rw [h];rfl) (by simp)
 ·exact ja o _ [112] rfl (by decide) h (v:=⟨o.Client,o.Seq,o.Kind,o.Path,[],0,0,0⟩) (by unfold aK;rw [h];rfl) (by simp)
end Dn.S
