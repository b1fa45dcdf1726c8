import Derived.Test.YteakdlhhamgfbaaDoorDnYD
/-
  Typed and plain functions agree. Conditions: none.
-/
open Go Dn
set_option linter.unusedVariables false
set_option linter.unusedSimpArgs false
set_option maxRecDepth 100000
namespace Dn.S
theorem mJ (sA:List UInt8) (aC:List UInt8):Sm MV.b (c4 (.s sA) (.s aC)) (bN sA aC):=by
 unfold c4 bN
 refine aL (aL ?_)
 refine av (f:=fun r=>[.b r]) ?_ fun w=> ?_
 ·refine bl ?_ ?_
  ·refine cr ?_
   exact ab (rfl)
  ·exact ab (rfl)
 ·refine ar (aU (aE ?_))
  exact ab (rfl)
theorem mK (sA:List UInt8) (aC:List UInt8):Sm (fun r=> .fS [.s r.1,.b r.2]) (c5 (.s sA) (.s aC)) (bO sA aC):=by
 unfold c5 bO
 refine aL (aL ?_)
 refine av (mJ sA aC) fun rA=> ?_
 refine aU ?_
 refine aW ?_ ?_
 ·exact ab (rfl)
 ·refine cr ?_
  exact ab (rfl)
theorem pK (sA:List UInt8) (aC:List UInt8):Sm (fun r=> .fS [.s r.1,.b r.2]) (ez (.s sA) (.s aC)) (cb sA aC):=by
 unfold ez cb
 refine aL (aL ?_)
 refine av (mK sA aC) fun rA=> ?_
 refine gn (ar (aL (ar (aU (aE ?_)))))
 exact ab (rfl)
theorem tT (c:Int):Sm MV.b (iv (.i .i32 c)) (b8 c):=by
 unfold iv b8
 refine bx ?_
 refine av (A8 ([97,98,99,100,101,102,103,104,105,106,107,108,109,110,111,112,113,114,115,116,117,118,119,120,121,122,48,49,50,51,52,53,54,55,56,57,45,95]:List UInt8) c) fun rA=> ?_
 refine aU ?_
 exact ab (rfl)
theorem rl (sA:List UInt8) (f:Int→Option Bool) (gY:Bool) {tU:Nat} {n3:List MV} (tC:gv tU=false) (dq: ∀(u0:Int),Sm MV.b (dk tU ([.i .i32 u0]++n3)) (f u0)):Sm (MV.i .i64) (fH (.s sA) (.func tU n3) (.b gY)) (db sA f gY):=by
 unfold fH db
 refine aL (sR (aU ?_))
 refine av (dR (fun r=>[.list r]) (Sum.elim (fun r=>(2,[])) (fun r=>(1,[.i .i64 r]))) (rfl) fun st=> ?_) fun w=> ?_
 ·unfold cc
  refine ar (gX (aE ?_))
  refine aW ?_ ?_
  ·refine DR (gp (by rw [tC];rfl) ?_)
   refine av (dq (lI st)) fun rA=> ?_
   refine aU ?_
   refine bl ?_ ?_
   ·exact ab (rfl)
   ·exact ab (rfl)
  ·exact ab (rfl)
 ·rcases w with p1|p2
  ·refine kN rfl (aE ?_)
   exact ab (rfl)
  ·refine kO rfl (gp rfl (ar (bx (aE ?_))))
   exact ab (rfl)
theorem pL (sA:List UInt8) (f:Int→Option Bool) {tU:Nat} {n3:List MV} (tC:gv tU=false) (dq: ∀(u0:Int),Sm MV.b (dk tU ([.i .i32 u0]++n3)) (f u0)):Sm (MV.i .i64) (eA (.s sA) (.func tU n3)) (cG sA f):=by
 unfold eA cG
 refine aL (sR ?_)
 refine av (rl sA f true tC dq) fun rA=> ?_
 refine bx ?_
 exact ab (rfl)
theorem nw (sA:List UInt8) (f:Int→Option Bool) {tU:Nat} {n3:List MV} (tC:gv tU=false) (dq: ∀(u0:Int),Sm MV.b (dk tU ([.i .i32 u0]++n3)) (f u0)):Sm MV.b (dm (.s sA) (.func tU n3)) (bF sA f):=by
 unfold dm bF
 refine aL (sR ?_)
 refine av (pL sA f tC dq) fun rA=> ?_
 refine bx ?_
 exact ab (rfl)
theorem qX (sA:List UInt8):Sm MV.b (iL (.s sA)) (dN sA):=by
 unfold iL dN
 refine aL ?_
 refine av (f:=fun r=>[.b r]) ?_ fun w=> ?_
 ·refine aW ?_ ?_
  ·refine bl ?_ ?_
   ·refine av (Iq sA ([97,98,99,100,101,102,103,104,105,106,107,108,109,110,111,112,113,114,115,116,117,118,119,120,121,122,48,49,50,51,52,53,54,55,56,57,45,95]:List UInt8)) fun rA=> ?_
    refine aL ?_
    refine bl ?_ ?_
    ·refine av (nw sA b8 (tU:=82) (n3:=[]) rfl (fun u1=>Sm.at (ja _) (tT u1))) fun bR=> ?_
     refine aU ?_
     exact ab (rfl)
    ·exact ab (rfl)
   ·exact ab (rfl)
  ·exact ab (rfl)
 ·refine ar (aU (aE ?_))
  exact ab (rfl)
theorem vW (sA:List UInt8):Sm MV.b (jo (.s sA)) (dh sA):=by
 unfold jo dh
 refine aL ?_
 refine av (qX sA) fun rA=> ?_
 refine aU ?_
 exact ab (rfl)
theorem mc (sA:List (List UInt8)) (f:(List UInt8)→Option Bool) {tU:Nat} {n3:List MV} (tC:gv tU=false) (dx: ∀(u0:List UInt8),Sm MV.b (cv tU ([.s u0]++n3)) (f u0)):Sm (MV.i .i64) (cN (.list (sA.map MV.s)) (.func tU n3)) (bI sA f):=by
 unfold cN bI
 refine gX (sR (b9 (n:=sA.length) (by simp only [List.length_map,List.length_cons,List.length_nil]) ?_))
 refine av (dR (fun r=>[.i .i64 r]) (Sum.elim (fun r=>(2,[])) (fun r=>(1,[.i .i64 r]))) (rfl) fun st=> ?_) fun w=> ?_
 ·unfold bg
  refine ar (bx (aE ?_))
  refine bl ?_ ?_
  ·refine ig (f:=MV.s) (rfl) fun y=> ?_
   refine aL (DR (gp (by rw [tC];rfl) ?_))
   refine av (dx y) fun rA=> ?_
   refine aU ?_
   refine aW ?_ ?_
   ·exact ab (rfl)
   ·exact ab (rfl)
  ·exact ab (rfl)
 ·rcases w with p1|p2
  ·refine kN rfl (aE ?_)
   exact ab (rfl)
  ·refine kO rfl (gp rfl (ar (bx (aE ?_))))
   exact ab (rfl)
theorem kc (sA:List (List UInt8)) (f:(List UInt8)→Option Bool) {tU:Nat} {n3:List MV} (tC:gv tU=false) (dx: ∀(u0:List UInt8),Sm MV.b (cv tU ([.s u0]++n3)) (f u0)):Sm MV.b (ck (.list (sA.map MV.s)) (.func tU n3)) (aZ sA f):=by
 unfold ck aZ
 refine gX (sR ?_)
 refine av (mc sA f tC dx) fun rA=> ?_
 refine bx ?_
 exact ab (rfl)
theorem jT (p:List UInt8):Sm (fun r=> .fS [.list (r.1.map MV.s),.b r.2]) (eQ (.s p)) (cH p):=by
 unfold eQ cH
 refine aL ?_
 refine av (pK p ([47]:List UInt8)) fun rA=> ?_
 refine gn (ar (aL (ar (aU (aE ?_)))))
 refine av (f:=fun r=>[.b r]) ?_ fun w=> ?_
 ·refine aW ?_ ?_
  ·exact ab (rfl)
  ·exact ab (rfl)
 ·refine ar (aU (aE ?_))
  refine aW ?_ ?_
  ·exact ab (rfl)
  ·refine bl ?_ ?_
   ·exact ab (rfl)
   ·refine av (FP rA.1 ([47]:List UInt8)) fun bR=> ?_
    refine qR ?_
    refine av (f:=fun r=>[.list (r.1.map MV.s),.b r.2.1,.list (r.2.2.map MV.s)]) ?_ fun w1=> ?_
    ·refine b9 (n:=bR.length) (by simp only [List.length_map,List.length_cons,List.length_nil]) ?_
     refine bl ?_ ?_
     ·refine av (kc bR dh (tU:=108) (n3:=[]) rfl (fun u1=>Sm.at (fN _) (vW u1))) fun kP=> ?_
      refine aU ?_
      exact ab (rfl)
     ·exact ab (rfl)
    ·refine ar (gX (ar (aU (ar (gX (aE ?_))))))
     exact ab (rfl)
theorem jU (p:List UInt8):Sm MV.b (eR (.s p)) (cT p):=by
 unfold eR cT
 refine aL ?_
 refine av (jT p) fun rA=> ?_
 refine gn (ar (gX (ar (aU (aE ?_)))))
 exact ab (rfl)
theorem jq (sA:List UInt8) (c:Int):Sm (MV.i .i64) (bZ (.s sA) (.i .u8 c)) (bA sA c):=by
 unfold bZ bA
 refine aL (bx ?_)
 refine av (dR (fun r=>[.i .i64 r]) (Sum.elim (fun r=>(2,[])) (fun r=>(1,[.i .i64 r]))) (rfl) fun st=> ?_) fun w=> ?_
 ·unfold bM
  refine ar (bx (aE ?_))
  refine bl ?_ ?_
  ·refine cr ?_
   refine bl ?_ ?_
   ·exact ab (rfl)
   ·exact ab (rfl)
  ·exact ab (rfl)
 ·rcases w with p1|p2
  ·refine kN rfl (aE ?_)
   exact ab (rfl)
  ·refine kO rfl (gp rfl (ar (bx (aE ?_))))
   exact ab (rfl)
theorem kT (sep:List UInt8):Sm (fun r=> .fS [.i .u32 r.1,.i .u32 r.2]) (cw (.s sep)) (bP sep):=by
 unfold cw bP
 refine aL ?_
 refine av (dR (fun r=>[.i .u32 r.1,.i .i64 r.2]) (fun r=>(2,[.i .u32 r])) (rfl) fun st=> ?_) fun w=> ?_
 ·unfold cf
  refine ar (bx (ar (bx (aE ?_))))
  refine bl ?_ ?_
  ·refine cr ?_
   exact ab (rfl)
  ·exact ab (rfl)
 ·refine gp rfl (ar (bx (aE ?_)))
  refine av (dR (fun r=>[.i .u32 r.1,.i .u32 r.2.1,.i .i64 r.2.2]) (fun r=>(4,[.i .u32 r])) (rfl) fun bw=> ?_) fun w1=> ?_
  ·unfold cg
   refine ar (bx (ar (bx (ar (bx (aE ?_))))))
   refine bl ?_ ?_
   ·refine av (f:=(fun r=>(0,[.i .u32 r]))) ?_ fun w2=> ?_
    ·refine aW ?_ ?_
     ·exact ab (rfl)
     ·exact ab (rfl)
    ·refine gp rfl (ar (bx (aE (cr ?_))))
     exact ab (rfl)
   ·exact ab (rfl)
  ·refine gp rfl (ar (bx (aE ?_)))
   exact ab (rfl)
theorem gx (a:List UInt8) (a1:List UInt8):Sm (MV.i .i64) (bB (.s a) (.s a1)) (a8 a a1):=by
 unfold bB a8
 refine aL (aL ?_)
 refine av (kT a1) fun rA=> ?_
 refine gn (ar (bx (ar (bx (aE ?_)))))
 refine av (dR (fun r=>[.i .u32 r.1,.i .i64 r.2]) (fun r=>(2,[.i .u32 r])) (rfl) fun st=> ?_) fun w=> ?_
 ·unfold bq
  refine ar (bx (ar (bx (aE ?_))))
  refine bl ?_ ?_
  ·refine cr ?_
   exact ab (rfl)
  ·exact ab (rfl)
 ·refine gp rfl (ar (bx (aE ?_)))
  refine av (f:=fun r=>[.b r]) ?_ fun w1=> ?_
  ·refine bl ?_ ?_
   ·refine cr ?_
    exact ab (rfl)
   ·exact ab (rfl)
  ·refine ar (aU (aE ?_))
   refine aW ?_ ?_
   ·exact ab (rfl)
   ·refine av (dR (fun r=>[.i .u32 r.1,.i .i64 r.2]) (Sum.elim (fun r=>(4,[])) (fun r=>(1,[.i .i64 r]))) (rfl) fun bw=> ?_) fun w2=> ?_
    ·unfold br
     refine ar (bx (ar (bx (aE ?_))))
     refine bl ?_ ?_
     ·refine cr (cr ?_)
      refine av (f:=fun r=>[.b r]) ?_ fun w3=> ?_
      ·refine bl ?_ ?_
       ·refine cr ?_
        exact ab (rfl)
       ·exact ab (rfl)
      ·refine ar (aU (aE ?_))
       refine aW ?_ ?_
       ·exact ab (rfl)
       ·exact ab (rfl)
     ·exact ab (rfl)
    ·rcases w2 with p2|p3
     ·refine kN rfl (aE ?_)
      exact ab (rfl)
     ·refine kO rfl (gp rfl (ar (bx (aE ?_))))
      exact ab (rfl)
theorem pM (sA:List UInt8) (substr:List UInt8):Sm (MV.i .i64) (eC (.s sA) (.s substr)) (di sA substr):=by
 unfold eC di
 refine aL (aL ?_)
 refine bl ?_ ?_
 ·exact ab (rfl)
 ·refine bl ?_ ?_
  ·refine cr ?_
   refine av (jq sA ((substr.getD (Int.toNat 0) 0).toNat:Int)) fun rA=> ?_
   refine bx ?_
   exact ab (rfl)
  ·refine bl ?_ ?_
   ·refine bl ?_ ?_
    ·exact ab (rfl)
    ·exact ab (rfl)
   ·refine bl ?_ ?_
    ·exact ab (rfl)
    ·refine av (gx sA substr) fun bR=> ?_
     refine bx ?_
     exact ab (rfl)
theorem qY (p:List UInt8):Sm (fun r=> .fS [.s r.1,.i .i64 r.2]) (iN (.s p)) (fQ p):=by
 unfold iN fQ
 refine aL ?_
 refine av (jU p) fun rA=> ?_
 refine aU ?_
 refine aW ?_ ?_
 ·exact ab (rfl)
 ·refine bl ?_ ?_
  ·exact ab (rfl)
  ·refine av (pM p ([47]:List UInt8)) fun bR=> ?_
   refine bx (cr ?_)
   exact ab (rfl)
theorem mA (x:List UInt8):Sm MV.b (eh (.s x)) (cI x):=by
 unfold eh cI
 refine aL ?_
 exact ab (rfl)
theorem pN (x:List UInt8) (y:List UInt8):Sm (MV.i .i64) (eD (.s x) (.s y)) (ch x y):=by
 unfold eD ch
 refine aL (aL ?_)
 refine av (mA x) fun rA=> ?_
 refine aU ?_
 refine av (mA y) fun bR=> ?_
 refine aU ?_
 refine aW ?_ ?_
 ·refine aW ?_ ?_
  ·exact ab (rfl)
  ·exact ab (rfl)
 ·refine aW ?_ ?_
  ·exact ab (rfl)
  ·refine aW ?_ ?_
   ·exact ab (rfl)
   ·refine aW ?_ ?_
    ·exact ab (rfl)
    ·exact ab (rfl)
theorem nx (s1:List (List UInt8)) (s2:List (List UInt8)):Sm (MV.i .i64) (dp (.list (s1.map MV.s)) (.list (s2.map MV.s))) (bG s1 s2):=by
 unfold dp bG
 refine gX (gX (b9 (n:=s1.length) (by simp only [List.length_map,List.length_cons,List.length_nil]) ?_))
 refine av (dR (fun r=>[.i .i64 r]) (Sum.elim (fun r=>(2,[])) (fun r=>(1,[.i .i64 r]))) (rfl) fun st=> ?_) fun w=> ?_
 ·unfold bt
  refine ar (bx (aE ?_))
  refine bl ?_ ?_
  ·refine ig (f:=MV.s) (rfl) fun y=> ?_
   refine aL (b9 (n:=s2.length) (by simp only [List.length_map,List.length_cons,List.length_nil]) ?_)
   refine bl ?_ ?_
   ·exact ab (rfl)
   ·refine ig (f:=MV.s) (rfl) fun y1=> ?_
    refine aL ?_
    refine av (pN y y1) fun rA=> ?_
    refine bx ?_
    refine aW ?_ ?_
    ·exact ab (rfl)
    ·exact ab (rfl)
  ·exact ab (rfl)
 ·rcases w with p1|p2
  ·refine kN rfl (aE (b9 (n:=s1.length) (by simp only [List.length_map,List.length_cons,List.length_nil]) (b9 (n:=s2.length) (by simp only [List.length_map,List.length_cons,List.length_nil]) ?_)))
   refine bl ?_ ?_
   ·exact ab (rfl)
   ·exact ab (rfl)
  ·refine kO rfl (gp rfl (ar (bx (aE ?_))))
   exact ab (rfl)
theorem ta (p:List UInt8) (q:List UInt8):Sm MV.b (jO (.s p) (.s q)) (eP p q):=by
 unfold jO eP
 refine aL (aL ?_)
 refine av (jT p) fun rA=> ?_
 refine gn (ar (gX (ar (aU (aE ?_)))))
 refine av (jT q) fun bR=> ?_
 refine gn (ar (gX (ar (aU (aE ?_)))))
 refine av (f:=fun r=>[.b r]) ?_ fun w=> ?_
 ·refine aW ?_ ?_
  ·refine aW ?_ ?_
   ·refine av (nx rA.1 bR.1) fun kP=> ?_
    refine bx ?_
    exact ab (rfl)
   ·exact ab (rfl)
  ·exact ab (rfl)
 ·refine ar (aU (aE ?_))
  exact ab (rfl)
theorem uT:Sm MV.b (lB) (ik):=by
 unfold lB ik
 refine av (qY ([47,97,47,98]:List UInt8)) fun rA=> ?_
 refine gn (ar (aL (ar (bx (aE ?_)))))
 refine av (qY ([47]:List UInt8)) fun bR=> ?_
 refine gn (ar (aL (ar (bx (aE ?_)))))
 refine av (f:=fun r=>[.b r]) ?_ fun w=> ?_
 ·refine bl ?_ ?_
  ·refine bl ?_ ?_
   ·refine bl ?_ ?_
    ·refine av (jU ([47]:List UInt8)) fun kP=> ?_
     refine aU ?_
     refine aW ?_ ?_
     ·refine av (jU ([97]:List UInt8)) fun tM=> ?_
      refine aU ?_
      refine aW ?_ ?_
      ·refine av (ta ([47,97,47,98]:List UInt8) ([47,97,45,98]:List UInt8)) fun DX=> ?_
       refine aU ?_
       exact ab (rfl)
      ·exact ab (rfl)
     ·exact ab (rfl)
    ·exact ab (rfl)
   ·exact ab (rfl)
  ·exact ab (rfl)
 ·refine ar (aU (aE ?_))
  exact ab (rfl)
theorem tc (sA:List UInt8):Sm MV.b (jP (.s sA)) (il sA):=by
 unfold jP il
 refine aL ?_
 refine av (dR (fun r=>[.i .i64 r]) (Sum.elim (fun r=>(2,[])) (fun r=>(1,[.b r]))) (rfl) fun st=> ?_) fun w=> ?_
 ·unfold gq
  refine ar (bx (aE ?_))
  refine bl ?_ ?_
  ·refine cr ?_
   refine av (f:=fun r=>[.b r]) ?_ fun w1=> ?_
   ·refine bl ?_ ?_
    ·refine bl ?_ ?_
     ·exact ab (rfl)
     ·refine bl ?_ ?_
      ·refine bl ?_ ?_
       ·exact ab (rfl)
       ·refine bl ?_ ?_
        ·exact ab (rfl)
        ·exact ab (rfl)
      ·refine bl ?_ ?_
       ·exact ab (rfl)
       ·exact ab (rfl)
    ·refine bl ?_ ?_
     ·refine bl ?_ ?_
      ·exact ab (rfl)
      ·refine bl ?_ ?_
       ·exact ab (rfl)
       ·exact ab (rfl)
     ·refine bl ?_ ?_
      ·exact ab (rfl)
      ·exact ab (rfl)
   ·refine ar (aU (aE ?_))
    refine aW ?_ ?_
    ·exact ab (rfl)
    ·exact ab (rfl)
  ·exact ab (rfl)
 ·rcases w with p1|p2
  ·refine kN rfl (aE ?_)
   refine av (f:=fun r=>[.b r]) ?_ fun w2=> ?_
   ·refine bl ?_ ?_
    ·exact ab (rfl)
    ·exact ab (rfl)
   ·refine ar (aU (aE ?_))
    exact ab (rfl)
  ·refine kO rfl (gp rfl (ar (aU (aE ?_))))
   exact ab (rfl)
theorem zU (p:List UInt8):Sm (fun r=> .fS [Il MV.s r.1,.b r.2]) (pH (.s p)) (nO p):=by
 unfold pH nO
 refine aL ?_
 refine av (f:=fun r=>[.b r]) ?_ fun w=> ?_
 ·refine bl ?_ ?_
  ·exact ab (rfl)
  ·refine cr ?_
   exact ab (rfl)
 ·refine ar (aU (aE ?_))
  refine aW ?_ ?_
  ·exact ab (rfl)
  ·refine bl ?_ ?_
   ·exact ab (rfl)
   ·refine av (dR (fun r=>[.list (r.1.map MV.s),.s r.2.1,.i .i64 r.2.2]) (fun r=>(2,[.list (r.1.map MV.s),.s r.2])) (rfl) fun st=> ?_) fun w1=> ?_
    ·unfold lq
     refine ar (gX (ar (aL (ar (bx (aE ?_))))))
     refine bl ?_ ?_
     ·refine cr ?_
      refine av (f:=(fun r=>(0,[.list (r.1.map MV.s),.s r.2]))) ?_ fun w2=> ?_
      ·refine bl ?_ ?_
       ·refine b9 (n:=st.1.length) (by simp only [List.length_map,List.length_cons,List.length_nil]) (b9 (n:=([st.2.1]:List (List UInt8)).length) (by simp only [List.length_map,List.length_cons,List.length_nil]) (cr ?_))
        exact ab (by simp)
       ·refine cr ?_
        refine Im (M:=([((p.getD (Int.toNat st.2.2) 0).toNat:Int)]:List Int)) (rfl) fun bs=> ?_
        refine cr ?_
        exact ab (rfl)
      ·refine gp rfl (ar (gX (ar (aL (aE ?_)))))
       exact ab (rfl)
     ·exact ab (rfl)
    ·refine gp rfl (ar (gX (ar (aL (aE (b9 (n:=w1.1.length) (by simp only [List.length_map,List.length_cons,List.length_nil]) (b9 (n:=([w1.2]:List (List UInt8)).length) (by simp only [List.length_map,List.length_cons,List.length_nil]) (cr ?_))))))))
     exact ab (by simp)
theorem uU (p:List UInt8):Sm MV.b (lC (.s p)) (ju p):=by
 unfold lC ju
 refine aL ?_
 refine bl ?_ ?_
 ·exact ab (rfl)
 ·refine av (zU p) fun rA=> ?_
  refine gn (ar (qR (ar (aU (aE ?_)))))
  refine av (dR (fun r=>[.i .i64 r]) (Sum.elim (fun r=>(2,[])) (fun r=>(1,[.b r]))) (rfl) fun st=> ?_) fun w=> ?_
  ·unfold iH
   refine ar (bx (aE (b9 (n:=rA.1.length) (by simp only [List.length_map,List.length_cons,List.length_nil]) ?_)))
   refine bl ?_ ?_
   ·refine ig (f:=MV.s) (rfl) fun y=> ?_
    refine aL ?_
    refine av (tc y) fun bR=> ?_
    refine aU ?_
    refine aW ?_ ?_
    ·exact ab (rfl)
    ·exact ab (rfl)
   ·exact ab (rfl)
  ·rcases w with p3|p4
   ·refine kN rfl (aE ?_)
    refine av (f:=fun r=>[.b r]) ?_ fun w1=> ?_
    ·refine aW ?_ ?_
     ·refine b9 (n:=rA.1.length) (by simp only [List.length_map,List.length_cons,List.length_nil]) ?_
      exact ab (rfl)
     ·exact ab (rfl)
    ·refine ar (aU (aE ?_))
     exact ab (rfl)
   ·refine kO rfl (gp rfl (ar (aU (aE ?_))))
    exact ab (rfl)
theorem lD (p:List UInt8):Sm (fun r=> .fS [Il MV.s r.1,.i .i64 r.2]) (fR (.s p)) (e9 p):=by
 unfold fR e9
 refine aL ?_
 refine av (uU p) fun rA=> ?_
 refine aU ?_
 refine aW ?_ ?_
 ·exact ab (rfl)
 ·refine av (zU p) fun bR=> ?_
  refine gn (ar (qR (ar (aU (aE ?_)))))
  exact ab (rfl)
theorem Ed (lA:List (List UInt8)):Sm MV.s (pI (.list (lA.map MV.s))) (lr lA):=by
 unfold pI lr
 refine gX ?_
 refine av (dR (fun r=>[.s r.1,.i .i64 r.2]) (fun r=>(2,[.s r])) (rfl) fun st=> ?_) fun w=> ?_
 ·unfold jK
  refine ar (aL (ar (bx (aE (b9 (n:=lA.length) (by simp only [List.length_map,List.length_cons,List.length_nil]) ?_)))))
  refine bl ?_ ?_
  ·refine cr ?_
   refine ig (f:=MV.s) (rfl) fun y=> ?_
   refine aL (cr ?_)
   exact ab (rfl)
  ·exact ab (rfl)
 ·refine gp rfl (ar (aL (aE ?_)))
  refine bl ?_ ?_
  ·exact ab (rfl)
  ·exact ab (rfl)
theorem oM (s1:List (List UInt8)) (s2:List (List UInt8)):Sm MV.b (dS (.list (s1.map MV.s)) (.list (s2.map MV.s))) (cU s1 s2):=by
 unfold dS cU
 refine gX (gX (b9 (n:=s1.length) (by simp only [List.length_map,List.length_cons,List.length_nil]) (b9 (n:=s2.length) (by simp only [List.length_map,List.length_cons,List.length_nil]) ?_)))
 refine aW ?_ ?_
 ·exact ab (rfl)
 ·refine b9 (n:=s1.length) (by simp only [List.length_map,List.length_cons,List.length_nil]) ?_
  refine av (dR (fun r=>[.i .i64 r]) (Sum.elim (fun r=>(2,[])) (fun r=>(1,[.b r]))) (rfl) fun st=> ?_) fun w=> ?_
  ·unfold dj
   refine ar (bx (aE ?_))
   refine bl ?_ ?_
   ·refine ig (f:=MV.s) (rfl) fun y=> ?_
    refine aL ?_
    refine ig (f:=MV.s) (rfl) fun y1=> ?_
    refine aL ?_
    refine aW ?_ ?_
    ·exact ab (rfl)
    ·exact ab (rfl)
   ·exact ab (rfl)
  ·rcases w with p1|p2
   ·refine kN rfl (aE ?_)
    exact ab (rfl)
   ·refine kO rfl (gp rfl (ar (aU (aE ?_))))
    exact ab (rfl)
theorem y6 (p:List UInt8) (q:List UInt8):Sm MV.b (ma (.s p) (.s q)) (jL p q):=by
 unfold ma jL
 refine aL (aL ?_)
 refine av (jT p) fun rA=> ?_
 refine gn (ar (gX (ar (aU (aE ?_)))))
 refine av (jT q) fun bR=> ?_
 refine gn (ar (gX (ar (aU (aE ?_)))))
 refine av (f:=fun r=>[.b r]) ?_ fun w=> ?_
 ·refine aW ?_ ?_
  ·refine aW ?_ ?_
   ·refine b9 (n:=bR.1.length) (by simp only [List.length_map,List.length_cons,List.length_nil]) (b9 (n:=rA.1.length) (by simp only [List.length_map,List.length_cons,List.length_nil]) ?_)
    refine bl ?_ ?_
    ·refine b9 (n:=rA.1.length) (by simp only [List.length_map,List.length_cons,List.length_nil]) (b9 (n:=bR.1.length) (by simp only [List.length_map,List.length_cons,List.length_nil]) (cr ?_))
     refine av (by simpa using oM rA.1 (List.drop (Int.toNat 0) (List.take (Int.toNat (rA.1.length:Int)) bR.1))) fun kP=> ?_
     refine aU ?_
     exact ab (rfl)
    ·exact ab (rfl)
   ·exact ab (rfl)
  ·exact ab (rfl)
 ·refine ar (aU (aE ?_))
  exact ab (rfl)
theorem mL (sA:List UInt8) (suffix:List UInt8):Sm MV.b (c6 (.s sA) (.s suffix)) (c3 sA suffix):=by
 unfold c6 c3
 refine aL (aL ?_)
 refine av (f:=fun r=>[.b r]) ?_ fun w=> ?_
 ·refine bl ?_ ?_
  ·refine cr ?_
   exact ab (rfl)
  ·exact ab (rfl)
 ·refine ar (aU (aE ?_))
  exact ab (rfl)
theorem mf (sA:List UInt8) (suffix:List UInt8):Sm MV.s (cO (.s sA) (.s suffix)) (cM sA suffix):=by
 unfold cO cM
 refine aL (aL ?_)
 refine av (mL sA suffix) fun rA=> ?_
 refine aU ?_
 refine aW ?_ ?_
 ·refine cr ?_
  exact ab (rfl)
 ·exact ab (rfl)
theorem oN (sA:List UInt8) (suffix:List UInt8):Sm MV.s (dT (.s sA) (.s suffix)) (cV sA suffix):=by
 unfold dT cV
 refine aL (aL ?_)
 refine av (mf sA suffix) fun rA=> ?_
 refine aL ?_
 exact ab (rfl)
theorem Bf (p:List UInt8) (name:List UInt8):Sm (fun r=> .fS [.s r.1,.i .i64 r.2]) (nP (.s p) (.s name)) (lu p name):=by
 unfold nP lu
 refine aL (aL ?_)
 refine av (oN p ([47]:List UInt8)) fun rA=> ?_
 refine aL (cr (cr ?_))
 refine av (f:=fun r=>[.b r]) ?_ fun w=> ?_
 ·refine av (jU p) fun bR=> ?_
  refine aU ?_
  refine aW ?_ ?_
  ·exact ab (rfl)
  ·refine av (qX name) fun kP=> ?_
   refine aU ?_
   refine aW ?_ ?_
   ·exact ab (rfl)
   ·refine av (jU ((rA++([47]:List UInt8))++name)) fun tM=> ?_
    refine aU ?_
    exact ab (rfl)
 ·refine ar (aU (aE ?_))
  refine aW ?_ ?_
  ·exact ab (rfl)
  ·exact ab (rfl)
theorem Ee (p:List UInt8) (name:List UInt8):Sm (fun r=> .fS [.s r.1,.i .i64 r.2]) (pJ (.s p) (.s name)) (nu p name):=by
 unfold pJ nu
 refine aL (aL ?_)
 refine av (lD p) fun rA=> ?_
 refine gn (ar (qR (ar (bx (aE ?_)))))
 refine av (f:=fun r=>[.b r]) ?_ fun w=> ?_
 ·refine aW ?_ ?_
  ·exact ab (rfl)
  ·refine av (tc name) fun bR=> ?_
   refine aU ?_
   exact ab (rfl)
 ·refine ar (aU (aE ?_))
  refine aW ?_ ?_
  ·exact ab (rfl)
  ·refine b9 (n:=rA.1.length) (by simp only [List.length_map,List.length_cons,List.length_nil]) (b9 (n:=([name]:List (List UInt8)).length) (by simp only [List.length_map,List.length_cons,List.length_nil]) (cr ?_))
   refine av (by simpa using Ed (rA.1++([name]:List (List UInt8)))) fun kP=> ?_
   refine aL ?_
   refine av (uU kP) fun tM=> ?_
   refine aU ?_
   refine aW ?_ ?_
   ·exact ab (rfl)
   ·exact ab (rfl)
theorem Bg (p:List UInt8) (q:List UInt8):Sm MV.b (nQ (.s p) (.s q)) (lv p q):=by
 unfold nQ lv
 refine aL (aL ?_)
 refine av (lD p) fun rA=> ?_
 refine gn (ar (qR (ar (bx (aE ?_)))))
 refine av (lD q) fun bR=> ?_
 refine gn (ar (qR (ar (bx (aE ?_)))))
 refine av (f:=fun r=>[.b r]) ?_ fun w=> ?_
 ·refine aW ?_ ?_
  ·exact ab (rfl)
  ·refine aW ?_ ?_
   ·exact ab (rfl)
   ·refine b9 (n:=bR.1.length) (by simp only [List.length_map,List.length_cons,List.length_nil]) (b9 (n:=rA.1.length) (by simp only [List.length_map,List.length_cons,List.length_nil]) ?_)
    exact ab (rfl)
 ·refine ar (aU (aE ?_))
  refine aW ?_ ?_
  ·exact ab (rfl)
  ·refine av (dR (fun r=>[.i .i64 r]) (Sum.elim (fun r=>(2,[])) (fun r=>(1,[.b r]))) (rfl) fun st=> ?_) fun w1=> ?_
   ·unfold iI
    refine ar (bx (aE (b9 (n:=rA.1.length) (by simp only [List.length_map,List.length_cons,List.length_nil]) ?_)))
    refine bl ?_ ?_
    ·refine ig (f:=MV.s) (rfl) fun y=> ?_
     refine aL ?_
     refine ig (f:=MV.s) (rfl) fun y1=> ?_
     refine aL ?_
     refine aW ?_ ?_
     ·exact ab (rfl)
     ·exact ab (rfl)
    ·exact ab (rfl)
   ·rcases w1 with p3|p4
    ·refine kN rfl (aE ?_)
     exact ab (rfl)
    ·refine kO rfl (gp rfl (ar (aU (aE ?_))))
     exact ab (rfl)
theorem Bh (p:List UInt8) (q:List UInt8):Sm MV.b (nR (.s p) (.s q)) (lz p q):=by
 unfold nR lz
 refine aL (aL ?_)
 refine av (lD p) fun rA=> ?_
 refine gn (ar (qR (ar (bx (aE ?_)))))
 refine av (lD q) fun bR=> ?_
 refine gn (ar (qR (ar (bx (aE ?_)))))
 refine av (f:=fun r=>[.b r]) ?_ fun w=> ?_
 ·refine aW ?_ ?_
  ·exact ab (rfl)
  ·exact ab (rfl)
 ·refine ar (aU (aE ?_))
  refine aW ?_ ?_
  ·exact ab (rfl)
  ·refine av (dR (fun r=>[.i .i64 r]) (Sum.elim (fun r=>(2,[])) (fun r=>(1,[.b r]))) (rfl) fun st=> ?_) fun w1=> ?_
   ·unfold iJ
    refine ar (bx (aE ?_))
    refine av (f:=fun r=>[.b r]) ?_ fun w2=> ?_
    ·refine b9 (n:=rA.1.length) (by simp only [List.length_map,List.length_cons,List.length_nil]) ?_
     refine bl ?_ ?_
     ·refine b9 (n:=bR.1.length) (by simp only [List.length_map,List.length_cons,List.length_nil]) ?_
      exact ab (rfl)
     ·exact ab (rfl)
    ·refine ar (aU (aE ?_))
     refine aW ?_ ?_
     ·refine ig (f:=MV.s) (rfl) fun y=> ?_
      refine aL ?_
      refine ig (f:=MV.s) (rfl) fun y1=> ?_
      refine aL ?_
      refine aW ?_ ?_
      ·refine ig (f:=MV.s) (rfl) fun y2=> ?_
       refine aL ?_
       refine ig (f:=MV.s) (rfl) fun y3=> ?_
       refine aL ?_
       exact ab (rfl)
      ·exact ab (rfl)
     ·exact ab (rfl)
   ·rcases w1 with p3|p4
    ·refine kN rfl (aE (b9 (n:=rA.1.length) (by simp only [List.length_map,List.length_cons,List.length_nil]) (b9 (n:=bR.1.length) (by simp only [List.length_map,List.length_cons,List.length_nil]) ?_)))
     exact ab (rfl)
    ·refine kO rfl (gp rfl (ar (aU (aE ?_))))
     exact ab (rfl)
theorem xD (p:List UInt8) (q:List UInt8):Sm MV.b (nv (.s p) (.s q)) (kw p q):=by
 unfold nv kw
 refine aL (aL ?_)
 refine av (f:=fun r=>[.b r]) ?_ fun w=> ?_
 ·refine bl ?_ ?_
  ·exact ab (rfl)
  ·exact ab (rfl)
 ·refine ar (aU (aE ?_))
  refine aW ?_ ?_
  ·refine av (uT) fun rA=> ?_
   refine aU ?_
   exact ab (rfl)
  ·refine av (Bf p q) fun bR=> ?_
   refine gn (ar (aL (ar (bx (aE ?_)))))
   refine av (Ee p q) fun kP=> ?_
   refine gn (ar (aL (ar (bx (aE ?_)))))
   refine av (f:=fun r=>[.b r]) ?_ fun w1=> ?_
   ·refine av (uT) fun tM=> ?_
    refine aU ?_
    refine aW ?_ ?_
    ·refine bl ?_ ?_
     ·refine bl ?_ ?_
      ·refine av (y6 p q) fun DX=> ?_
       refine aU ?_
       refine av (Bg p q) fun Lm=> ?_
       refine aU ?_
       refine bl ?_ ?_
       ·refine av (ta p q) fun Ln=> ?_
        refine aU ?_
        refine av (Bh p q) fun Lo=> ?_
        refine aU ?_
        exact ab (rfl)
       ·exact ab (rfl)
      ·exact ab (rfl)
     ·exact ab (rfl)
    ·exact ab (rfl)
   ·refine ar (aU (aE ?_))
    exact ab (rfl)
end Dn.S
