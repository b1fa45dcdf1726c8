import Derived.Test.YteakdlhhamgfbaaDoorDnYE
import Derived.Test.YteakdlhhamgfbaaDoorDnC
import Derived.Test.YteakdlhhamgfbaaDoorRows
import Derived.ProofKit
import Derived.Test.YteakdlhhamgfbaaDoorDnPPath6
import Derived.Test.YteakdlhhamgfbaaDoorTie
import Derived.Test.YteakdlhhamgfbaaDoorCards
import Derived.SevenTiedAt
/-
  The law PathTwo holds. Conditions: none.
-/
set_option linter.unusedVariables false
set_option linter.unusedSimpArgs false
set_option maxRecDepth 100000
namespace Go.Proofs.YteakdlhhamgfbaaDoor
open Go Go.ChangeShapes Go.WideShapes Go.ChangeAt Go.RowKit Dn Dn.S
theorem rd9: ∀{n:Nat} {ms:List MV},MT Tryd.prog n 9 ms→ ∃x:List UInt8,ms=[.s x]∧x.length≤Go.maxLen:=by
 intro n ms h
 cases n with
 |zero=>exact h.elim
 |succ d=>
  unfold MT at h
  rw [Tryd.underlying9] at h
  obtain ⟨x,rfl,h⟩:=h
  exact ⟨x,rfl,h⟩
theorem me9 {n:Nat} {m:MV} (h:ME Tryd.prog (MT Tryd.prog n) 9 m): ∃x:List UInt8,m=MV.s x∧x.length≤Go.maxLen:=by
 unfold ME at h
 rw [Tryd.underlying9] at h
 obtain ⟨x,e,w⟩:=rd9 h
 exact ⟨x,by simpa using e,w⟩
theorem own:ownKnob Tryd.prog.godebug=none:=by kernel_rfl
theorem laidOut:laidOutB Tryd.prog=true:=by kernel_rfl
theorem sound_law: ∀ms,pC Tryd.prog Tryd.f8.params.toList ms→gj Tryd.prog cx 8 ms (.b true):=by
 intro ms h
 rw [show Tryd.f8.params= #[9,9] from Tryd.params8] at h
 obtain ⟨m0,_,rfl,⟨_,h0⟩,m1,_,rfl,⟨_,h1⟩,h⟩:=h
 have h:_=[]:=h
 subst h
 obtain ⟨x0,rfl,w0⟩:=me9 h0
 obtain ⟨x1,rfl,w1⟩:=me9 h1
 refine rk.all 8 _ _ ?_
 have he:=xD x0 x1
 rw [xN x0 x1] at he
 exact he
theorem law_lifted (os:Os) (started:os.Started) (H:Type) (enc:TypeId×Value→H):
 ReturnsInHanded {} Tryd.checked os 8 .any (fun w args=>(Rows.pathTwoSpec.pre enc Tryd.prog Tryd.f8 Rows.pathTwoRow.domain false w args∧laidMet Tryd.prog Rows.pathTwoRow.laid w)∧sizedMet enc Tryd.prog Tryd.f8 (OpenSpec.ofChange Rows.pathTwoSpec) false w args) (Rows.pathTwoSpec.post enc Tryd.prog Tryd.f8 false true false false):=by
 refine returnsInHanded_of_change_and (C:=Tryd.checked) (X:=fun w _=>laidMet Tryd.prog Rows.pathTwoRow.laid w) (fun _ _ _ hh h=>h.of_heap hh) own started (by kernel_rfl) Tryd.func8
  (ChangeSpec.witness_shaped (enc:=enc) (C:=Tryd.checked) (os:=os) (X:=fun w _=>laidMet Tryd.prog Rows.pathTwoRow.laid w) false (KP Tryd.prog Rows.pathTwoRow.laid os #[.string ⟨#[]⟩,.string ⟨#[]⟩]) #[.string ⟨#[]⟩,.string ⟨#[]⟩] 8 rfl (World.shaped_of_RefB (by kernel_rfl) (by kernel_rfl)) (by kernel_rfl) (by kernel_rfl) (by kernel_rfl)
   (laidMet_of_run3 8 (by kernel_rfl) (by kernel_rfl) (by kernel_rfl))) ?_
 intro W base args ds gs before hval0 hW hcnd _ _ _
 refine AP (c:=cx) (tb:=4) Tryd.func8 (by kernel_rfl) (by kernel_rfl) laidOut ?_ (by kernel_rfl) Tryd.underlying4 rfl ?_ hval0 hW (by kernel_rfl) sound_law
 ·intro t ht
  rw [show Tryd.f8.params= #[9,9] from Tryd.params8] at ht
  rcases List.mem_cons.1 ht with rfl|ht
  ·exact ⟨⟨30,by kernel_rfl⟩,by kernel_rfl,of_decide_eq_true (by kernel_rfl)⟩
  rcases List.mem_cons.1 ht with rfl|ht
  ·exact ⟨⟨30,by kernel_rfl⟩,by kernel_rfl,of_decide_eq_true (by kernel_rfl)⟩
  cases ht
 ·intro ds hd
  rw [show Tryd.f8.params= #[9,9] from Tryd.params8] at hd
  match ds,hd with
  |[_,_],_=>rfl
def headNs:List Nat:=[104,97,114,110,101,115,115,32,101,48,101,100,50,52,55,54,100,98,100,98,52,49,52,55,54,97,102,101,48,48,53,99,100,102,57,57,100,97,50,55,55,57,54,100,98,53,56,55,98,54,98,53,98,56,52,57,99,53,100,51,48,100,48,53,98,97,102,56,49,101,56,99,32,99,117,116,32,97,116,32,99,111,110,115,105,115,116,111,114,121,47,99,111,110,115,105,115,116,111,114,121,108,97,119,48,56,46,80,97,116,104,84,101,108,108,115,32,99,111,110,115,105,115,116,111,114,121,47,99,111,110,115,105,115,116,111,114,121,108,97,119,48,56,46,80,97,116,104,79,114,100,101,114,32,99,111,110,115,105,115,116,111,114,121,47,99,111,110,115,105,115,116,111,114,121,108,97,119,49,49,46,87,97,116,99,104,79,110,99,101,32,99,111,110,115,105,115,116,111,114,121,47,99,111,110,115,105,115,116,111,114,121,108,97,119,49,49,46,87,97,116,99,104,84,117,114,110,115,32,99,111,110,115,105,115,116,111,114,121,47,99,111,110,115,105,115,116,111,114,121,108,97,119,49,49,46,87,97,116,99,104,67,97,110,99,101,108,115,32,99,111,110,115,105,115,116,111,114,121,47,99,111,110,115,105,115,116,111,114,121,108,97,119,48,56,46,80,97,116,104,84,119,111,32,99,111,110,115,105,115,116,111,114,121,47,99,111,110,115,105,115,116,111,114,121,108,97,119,49,49,46,87,97,116,99,104,80,105,101,99,101,115,32,99,111,110,115,105,115,116,111,114,121,47,99,111,110,115,105,115,116,111,114,121,108,97,119,48,56,46,80,97,116,104,74,111,105,110,115,32,99,111,110,115,105,115,116,111,114,121,47,99,111,110,115,105,115,116,111,114,121,108,97,119,48,56,46,80,97,116,104,77,97,100,101,32,99,111,110,115,105,115,116,111,114,121,47,99,111,110,115,105,115,116,111,114,121,108,97,119,49,49,46,87,97,116,99,104,77,97,121,32,99,111,110,115,105,115,116,111,114,121,47,99,111,110,115,105,115,116,111,114,121,108,97,119,48,57,46,83,104,101,108,102,77,97,121,32,99,111,110,115,105,115,116,111,114,121,47,99,111,110,115,105,115,116,111,114,121,108,97,119,48,57,46,83,104,101,108,102,65,115,107,115,32,99,111,110,115,105,115,116,111,114,121,47,99,111,110,115,105,115,116,111,114,121,108,97,119,48,57,46,83,104,101,108,102,68,114,111,112,115,32,99,111,110,115,105,115,116,111,114,121,47,99,111,110,115,105,115,116,111,114,121,108,97,119,48,57,46,83,104,101,108,102,75,105,100,115,32,99,111,110,115,105,115,116,111,114,121,47,99,111,110,115,105,115,116,111,114,121,108,97,119,48,57,46,83,104,101,108,102,74,117,115,116,32,99,111,110,115,105,115,116,111,114,121,47,99,111,110,115,105,115,116,111,114,121,108,97,119,48,57,46,83,104,101,108,102,67,104,97,110,103,101,115]
def headWs:List (List Nat):=[[97,116],[99,111,110,115,105,115,116,111,114,121,47,99,111,110,115,105,115,116,111,114,121,108,97,119,48,56,46,80,97,116,104,84,101,108,108,115],[99,111,110,115,105,115,116,111,114,121,47,99,111,110,115,105,115,116,111,114,121,108,97,119,48,56,46,80,97,116,104,79,114,100,101,114],[99,111,110,115,105,115,116,111,114,121,47,99,111,110,115,105,115,116,111,114,121,108,97,119,49,49,46,87,97,116,99,104,79,110,99,101],[99,111,110,115,105,115,116,111,114,121,47,99,111,110,115,105,115,116,111,114,121,108,97,119,49,49,46,87,97,116,99,104,84,117,114,110,115],[99,111,110,115,105,115,116,111,114,121,47,99,111,110,115,105,115,116,111,114,121,108,97,119,49,49,46,87,97,116,99,104,67,97,110,99,101,108,115],[99,111,110,115,105,115,116,111,114,121,47,99,111,110,115,105,115,116,111,114,121,108,97,119,48,56,46,80,97,116,104,84,119,111],[99,111,110,115,105,115,116,111,114,121,47,99,111,110,115,105,115,116,111,114,121,108,97,119,49,49,46,87,97,116,99,104,80,105,101,99,101,115],[99,111,110,115,105,115,116,111,114,121,47,99,111,110,115,105,115,116,111,114,121,108,97,119,48,56,46,80,97,116,104,74,111,105,110,115],[99,111,110,115,105,115,116,111,114,121,47,99,111,110,115,105,115,116,111,114,121,108,97,119,48,56,46,80,97,116,104,77,97,100,101],[99,111,110,115,105,115,116,111,114,121,47,99,111,110,115,105,115,116,111,114,121,108,97,119,49,49,46,87,97,116,99,104,77,97,121],[99,111,110,115,105,115,116,111,114,121,47,99,111,110,115,105,115,116,111,114,121,108,97,119,48,57,46,83,104,101,108,102,77,97,121],[99,111,110,115,105,115,116,111,114,121,47,99,111,110,115,105,115,116,111,114,121,108,97,119,48,57,46,83,104,101,108,102,65,115,107,115],[99,111,110,115,105,115,116,111,114,121,47,99,111,110,115,105,115,116,111,114,121,108,97,119,48,57,46,83,104,101,108,102,68,114,111,112,115],[99,111,110,115,105,115,116,111,114,121,47,99,111,110,115,105,115,116,111,114,121,108,97,119,48,57,46,83,104,101,108,102,75,105,100,115],[99,111,110,115,105,115,116,111,114,121,47,99,111,110,115,105,115,116,111,114,121,108,97,119,48,57,46,83,104,101,108,102,74,117,115,116],[99,111,110,115,105,115,116,111,114,121,47,99,111,110,115,105,115,116,111,114,121,108,97,119,48,57,46,83,104,101,108,102,67,104,97,110,103,101,115]]
theorem head_ok:Tryd.prog.initOrder=String.ofList (headNs.map Char.ofNat):=by kernel_rfl
theorem words_ok:behindMainWord (wordsSigns (headNs.map Char.ofNat))=n4::headWs.map (·.map Char.ofNat):=by kernel_rfl
theorem head_words:behindMainWord (wordsSigns Tryd.prog.initOrder.toList)=n4::headWs.map (·.map Char.ofNat):=by rw [uZ head_ok,words_ok]
theorem strip1:(stripLifts liftWords (n4::headWs.map (·.map Char.ofNat))).1=[]:=by kernel_rfl
theorem strip2:((stripLifts liftWords (n4::headWs.map (·.map Char.ofNat))).2.head? ==some "cut".toList)=true:=by kernel_rfl
theorem may_ok:Tryd.prog.mayEnter=true:=Iy head_words strip1 strip2 (by kernel_rfl) (by kernel_rfl) (by kernel_rfl)
theorem lifts_ok:(Rows.pathTwoRow.lifted==Tryd.prog.liftsFinal)=true:=Eo (En head_words strip1) (by kernel_rfl)
theorem make_ok:(Tryd.prog.make==some Rows.pathTwoRow.make)=true:=F6 (F5 head_words) (by kernel_rfl)
theorem closed_ok:joinedFacts Tryd.prog 8 Tryd.f8 Rows.pathTwoSpec Rows.pathTwoRow=true:=by
 unfold joinedFacts
 repeat' (with_reducible apply xO)
 all_goals first|(with_reducible exact may_ok)|(with_reducible exact lifts_ok)|(with_reducible exact make_ok)|kernel_rfl
theorem row_holds:Rows.PathTwoSaid:=
 OpenClaim.holds_of_wide 8 Tryd.f8 rfl rfl rfl rfl rfl rfl rfl ⟨rfl,rfl,rfl,rfl,rfl⟩ rfl rfl rfl rfl rfl (by kernel_rfl) Tryd.func8 closed_ok
  (of_decide_eq_true (by kernel_rfl)) (by unfold Func.isWrapper;first|(rw [if_pos (by decide+kernel)];kernel_rfl)|(rw [if_neg (by decide+kernel)];exact ⟨rfl,rfl⟩))
  (fun os started H enc _=>law_lifted os started H enc)
theorem main_words:wordsSigns (headNs.map Char.ofNat)=[104,97,114,110,101,115,115].map Char.ofNat::[101,48,101,100,50,52,55,54,100,98,100,98,52,49,52,55,54,97,102,101,48,48,53,99,100,102,57,57,100,97,50,55,55,57,54,100,98,53,56,55,98,54,98,53,98,56,52,57,99,53,100,51,48,100,48,53,98,97,102,56,49,101,56,99].map Char.ofNat::n4::headWs.map (·.map Char.ofNat):=by kernel_rfl
theorem main_ok:Tryd.prog.mainIs=some (true, "e0ed2476dbdb41476afe005cdf99da27796db587b6b5b849c5d30d05baf81e8c".toList):=by
 rw [F4 (P:=Tryd.prog) ((congrArg wordsSigns (uZ head_ok)).trans main_words) (by kernel_rfl) (by kernel_rfl)]
 have h:[101,48,101,100,50,52,55,54,100,98,100,98,52,49,52,55,54,97,102,101,48,48,53,99,100,102,57,57,100,97,50,55,55,57,54,100,98,53,56,55,98,54,98,53,98,56,52,57,99,53,100,51,48,100,48,53,98,97,102,56,49,101,56,99].map Char.ofNat= "e0ed2476dbdb41476afe005cdf99da27796db587b6b5b849c5d30d05baf81e8c".toList:=by kernel_rfl
 rw [h]
theorem law_holds:Rows.PathTwoCardSaid:=
 Claim7.holds_tied_plain_at .later [] [.data,.pinned] true (true, "e0ed2476dbdb41476afe005cdf99da27796db587b6b5b849c5d30d05baf81e8c") false
  row_holds (fun _ h=>by cases h) (by kernel_rfl) (fun _ h=>by cases h) pathTwo_row_tie rfl ⟨rfl,rfl⟩ main_ok rfl
  (fun f fn hf IL=>by
   obtain rfl:f=8:=Option.some.inj ((show Tryd.prog.funcNamed Rows.pathTwoRow.func=some 8 by kernel_rfl).symm.trans hf)|>.symm
   obtain rfl:fn=Tryd.f8:=(Option.some.inj (Tryd.func8.symm.trans IL)).symm
   exact ⟨by kernel_rfl,fun j t ht=>by
    rw [Tryd.params8] at ht
    have hm:t∈[9,9]:=by simpa using Array.mem_of_getElem? ht
    have iV:([9,9].all fun u=>!Tryd.prog.wantsStandIn u)=true:=by kernel_rfl
    exact (show Tryd.prog.wantsStandIn t=false by simpa using List.all_eq_true.1 iV t hm)⟩)
  (by kernel_rfl)
end Go.Proofs.YteakdlhhamgfbaaDoor
