import Derived.Test.YtjblhgpbkfmkoaaDnC
import Derived.Test.YtjblhgpbkfmkoaaDnB
/-
  Going through a map, in whatever order: it does what is said. Conditions: none.
-/
set_option linter.unusedSimpArgs false
set_option linter.unusedVariables false
namespace Dn
open Go
section
variable {P:Program} {c:Ctx} {Z Zb Zi:aX} {e e' e3:Env} {st bj jB B:St} {a a':Act} {w w':World} {R:Type} {r:R} {Q:Exit→Act→World→Prop} {o:Oper} {hn:jZ}
theorem CG {ops:Array Oper} {i:Nat} {nx:Act→World→Prop} (hi:ops[i]? =some o) (hg:o.guard=none) (h:o.wp P a w nx Q):wpOp P ops Q i nx a w:=by
 unfold wpOp
 simp only [hi]
 have:Region.wanted o (yielded ops a.tmps)=true:=by unfold Region.wanted;rw [hg]
 rw [this]
 simp only [if_true]
 exact .inl h
theorem uZ {id:Nat} {ops:Array Oper} {l:List Oper} {nx:Act→World→Prop} (hl:ops.toList=o::l) (hg:o.guard=none) (h:o.wp P a w nx Q)
 (hn: ∀a' w',nx a' w'→wpOps P ops Q ((List.range l.length).map (· +1)) a' w'):(Code.region id ops false).wp P Q a w:=by
 refine wp_region ?_
 have hs:ops.size=l.length+1:=by rw [←Array.length_toList,hl];rfl
 rw [hs,List.range_succ_eq_map,wpOps_cons]
 have h0:ops[0]? =some o:=by rw [←Array.getElem?_toList,hl];rfl
 exact wpOp_mono hn (CG h0 hg h)
theorem zO {ops:Array Oper} {l:List Oper} (hl:ops.toList=o::l):((List.range l.length).map (· +1)).map (ops[·]?)=l.map some:=by
 apply List.ext_getElem?
 intro i
 simp only [List.getElem?_map]
 by_cases hi:i<l.length
 ·have:ops[i+1]? =l[i]? :=by rw [←Array.getElem?_toList,hl];rfl
  simp [List.getElem?_range hi,this,hi]
 ·have h1:(List.range l.length)[i]? =none:=by simp;omega
  have h2:l[i]? =none:=by simp;omega
  rw [h1,h2];rfl
def aX.wd (Z:aX) (g:Nat):aX:={Z with In:=fun b=>Z.In b∨b=g}
theorem zP {g:Nat} {m:Option Nat} {s:Nat} {seen:Array Nat} {k:Nat} (h:bn c Z e st a w) (hg:w.heap[g]? =some (.mapIter m s seen k)):
 (∀t cs,ak st.fr t= .box cs→e.B t≠g)∧(∀f o,ay st.aE f=some o→(e.E f).ownBlock≠some g):=by
 refine ⟨fun t cs ht he=> ?_,fun f o ho he=> ?_⟩
 ·have hs:=h.slot t
  rw [ht] at hs
  obtain ⟨ob,h1,h2⟩:=hs.2.obj
  rw [he,hg] at h1
  cases h1
  exact h2.elim
 ·obtain ⟨I,cells,_,_,h3,_⟩:=(h.dS f o ho).row
  rcases h3.2 with ⟨h1,_⟩|⟨g',cap,c9,h1,_,h2,_⟩
  ·rw [h1] at he;cases he
  ·rw [h1] at he
   simp only [Value.ownBlock,Option.some.injEq] at he
   subst he
   rw [hg] at h2;cases h2
theorem eS.wide {g:Nat} {m:Option Nat} {s:Nat} {seen:Array Nat} {k:Nat} (j:eS c Zb Zi e B hn a w) (hz:Zb.In g) (hg:w.heap[g]? =some (.mapIter m s seen k)):eS c Zb (Zi.wd g) e B hn a w:=by
 obtain ⟨h1,h2⟩:=zP j.ke hg
 exact ⟨j.ke,fun b hb=>hb.elim (j.sub b) (fun he=>by rw [he];exact hz),fun b hb=> .inl (j.new b hb),j.bA,j.T,j.keys,fun t cs ht hz=>hz.elim (j.box t cs ht) (h1 t cs ht),fun f o b ho hb hz=>hz.elim (j.dS f o b ho hb) (fun he=>h2 f o ho (by rw [hb,he])),j.NK,j.KM,j.ptr,j.Md⟩
theorem eS.ab3 {g:Nat} (j:eS c Zi Zi e B hn a w):bn c (Zi.wd g) e B a w:=by
 have h:=j.ke
 have hm:e.m=B.aE:=h.m
 have:=h.sub (Zi:=Zi.wd g) (bj:=B) (fun _ h=>h) ⟨h.defers.2.1,h.defers.2.2.1,h.defers.2.2.2⟩ h.nodup (fun t=> .inr ⟨j.ptr t,.inl rfl⟩) (fun f o ho=>⟨o,ho,rfl,rfl,id⟩)
  (by
   intro t cs ht
   have hs:=h.slot t
   rw [ht] at hs
   rcases hs.2.bH with h1|h1
   ·exact .inl h1
   ·exact .inr (.inl h1))
  (by
   intro f o b ho hb
   obtain ⟨I,cells,_,_,_,_,g5⟩:=(h.dS f o ho).row
   rcases (g5 b hb).1 with h1|h1
   ·exact .inl h1
   ·exact .inr (.inl h1))
  (by
   intro f o I cells b ho hp hz hI cC hb k hk
   obtain ⟨I',DB,g1,_,g3,_,g5⟩:=(h.dS f o ho).row
   rw [hI] at g1
   cases g1
   rw [nn cC g3 hb] at hk⊢
   exact (g5 b hb).2.2 hp hz k hk)
  (fun b hb=> .inl (j.new b hb))
 have he:{e with m:=B.aE}=e:=by cases e;simp at hm⊢;exact hm.symm
 rw [he] at this
 exact this
theorem eS.Yc {g:Nat} {m:Option Nat} {s:Nat} {seen:Array Nat} {k:Nat} (j:eS c Zi Zi e B hn a w) (hg:w.heap[g]? =some (.mapIter m s seen k)):eS c (Zi.wd g) (Zi.wd g) e B hn a w:=by
 obtain ⟨h1,h2⟩:=zP j.ke hg
 exact ⟨j.ab3,fun b hb=>hb,fun b hb=> .inl (j.new b hb),j.bA,j.T,j.keys,fun t cs ht hz=>hz.elim (j.box t cs ht) (h1 t cs ht),fun f o b ho hb hz=>hz.elim (j.dS f o b ho hb) (fun he=>h2 f o ho (by rw [hb,he])),j.NK,j.KM,j.ptr,j.Md⟩
theorem tR {k n:Nat} (h:Q (fL (bif Nat.beq n (k+2) then 0 else n)) a w):Exit.inBlock k Q (fL n) a w:=by
 by_cases hk:n=k+2
 ·subst hk
  simp only [cw,decide_true,cond_true] at h
  simpa [fL,Exit.inBlock] using h
 ·simp only [cw,hk,decide_false,cond_false] at h
  match n,hk,h with
  |0,_,h=>exact h
  |1,_,h=>exact h
  |i+2,hk,h=>
   have hi:i≠k:=fun he=>hk (by rw [he])
   simpa [fL,Exit.inBlock,hi] using h
theorem Ea {α:Type} {l:List α} {i:Nat} {x:α} (h:l[i]? =some x):x∈l:=List.mem_of_getElem? h
theorem UA (hG:Good P c) (hD:zv P c) {q:Mi} {code:Code} (hq:JM code=some q) {K:Nat→St→Option R} (h:bn c Z e st a w) (hK:Uz c q st K=some r)
 (hQ: ∀n e' bj a' w',bn c Z e' bj a' w'→Trans Z.In e.φ w e'.φ w'→K n bj=some r→Q (fL n) a' w'):code.wp P Q a w:=by
 obtain ⟨rfl,l1,l2,l3,m1,m2,m3,m4,m5,m6,g1,g2,g3,g4⟩:=H4 hq
 unfold Uz at hK
 unfold Mi.code
 refine wp_seq ?_
 obtain ⟨hx,hrx⟩:=h.eval q.x
 refine uZ l1 g1 (fin (v:=a.eval q.x) (s:=aw c st q.x) (by simp [execOp,m1]) h (.refl _ _ _) (.of hx hrx) (by rw [m2];exact hK)) ?_
 rintro a1 w1 ⟨e1,cb,h1,t1,fU⟩
 try dsimp only at fU
 obtain ⟨Hp,_⟩:=h1.eval (.tmp q.d1)
 split at fU
 ·rename_i root s0 Mg Xm
  rw [Mg] at Hp
  split at fU
  ·rename_i s es0 lF
   cases hp:qG root||!R5 s s0 with
   |true=>rw [hp] at fU;cases fU
   |false=>
    rw [hp] at fU
    simp only [cond_false] at fU
    simp only [Bool.or_eq_false_iff,Bool.not_eq_false'] at hp
    obtain ⟨sX,Js⟩:=hp
    have Js:=HE Js
    subst Js
    have hit:=Ju Xm
    simp only [af] at Hp
    have gJ:=h1.slot root
    rw [lF] at gJ
    obtain ⟨ob,Kr,bN⟩:=gJ.2.obj
    obtain ⟨arr,clock,rfl,od⟩: ∃arr clock,ob= .map arr clock∧kM s arr clock es0:=by
     cases ob with
     |cells x y z=>exact absurd bN.2.qn (by simp [cX])
     |map arr clock=>
      obtain ⟨s2,ms2,k1,k2,k3⟩:=bN
      simp only [List.cons.injEq,av.mp.injEq,and_true] at k1
      obtain ⟨rfl,rfl⟩:=k1
      exact ⟨arr,clock,rfl,k3⟩
     |stringIter b pos=>
      have k1:[av.mp s es0]=[av.mp MS.it _]:=bN
      simp only [List.cons.injEq,av.mp.injEq,and_true] at k1
      rw [k1.1] at hit;cases hit
     |_=>exact bN.elim
    obtain ⟨kt,el,eH,_⟩:=(hG.mt q.t s Xm).row
    have bw:=run_range_map (P:=P) w1 q.t kt el (e1.B root) arr clock eH Kr
    obtain ⟨L0,Xb,cA⟩:=D9 fU
    have cm:root≠q.d2:=by intro he;rw [←he,lF] at L0;cases L0
    have G3:cy w1 (w1.alloc (.mapIter (some (e1.B root)) clock #[] clock)):=by
     refine ⟨by simp,fun k hk=>kA w1 _ k hk,⟨rfl,rfl,rfl,fun x=> ?_⟩⟩
     by_cases hx:x.block=w1.heap.size
     ·have e1':(w1.alloc (.mapIter (some (e1.B root)) clock #[] clock)).heap[x.block]? =some (.mapIter (some (e1.B root)) clock #[] clock):=by rw [hx];exact eB w1 _
      have e2:w1.heap[x.block]? =none:=by rw [hx];simp
      simp [World.frozen?,e1',e2]
     ·exact World.frozen?_alloc_old _ _ _ hx
    rw [List.length_singleton]
    show wpOps P q.o1 _ [1] a1 w1
    rw [wpOps_cons]
    have nZ:q.o1[1]? =some q.b1:=by rw [←Array.getElem?_toList,l1];rfl
    refine CG nZ g2 ?_
    unfold Oper.wp
    have hex:(execOp a1.eval q.b1).run P w1= .ok (.value (.pointer (some ⟨w1.heap.size,0,none⟩))) (w1.alloc (.mapIter (some (e1.B root)) clock #[] clock)):=by
     simp [execOp,m3,Hp,bw,Result.andThen]
    rw [hex,Oper.upon_value,m4]
    obtain ⟨e2,cr,h2,mZ,hφ2⟩:=bW (v:= .pointer (some ⟨w1.heap.size,0,none⟩)) (s:= .sc .un) (h1.grow G3) (by simp [j8,af,bJ]) fU
    have oh:(a1.put (some q.d2) (.pointer (some ⟨w1.heap.size,0,none⟩))).tmps.getD q.d2 undef= .pointer (some ⟨w1.heap.size,0,none⟩):=by
     rw [Act.ml (by rw [h1.size];exact cA),if_pos rfl]
    have hto: ∀t,t≠q.d2→(a1.put (some q.d2) (.pointer (some ⟨w1.heap.size,0,none⟩))).tmps.getD t undef=a1.tmps.getD t undef:=fun t ht=>by
     rw [Act.ml (by rw [h1.size];exact cA),if_neg ht]
    generalize a1.put (some q.d2) (.pointer (some ⟨w1.heap.size,0,none⟩))=a2 at h2 oh hto⊢
    have Rk:(w1.alloc (.mapIter (some (e1.B root)) clock #[] clock)).heap[w1.heap.size]? =some (.mapIter (some (e1.B root)) clock #[] clock):=eB w1 _
    have SQ:(w1.alloc (.mapIter (some (e1.B root)) clock #[] clock)).heap[e1.B root]? =some (.map arr clock):=by rw [kA w1 _ _ (aN Kr)];exact Kr
    have ab4:Z.In w1.heap.size:=h1.bH _ (Nat.le_refl _)
    have t12:Trans Z.In e.φ w e2.φ (w1.alloc (.mapIter (some (e1.B root)) clock #[] clock)):=by rw [hφ2];exact t1.trans (G3.trans h1.bH _)
    have UB:a1.tmps.getD root undef= .map (some (e1.B root)):=by
     have:=gJ.1.1 sX
     rw [this];simp [yJ,fG,hit]
    generalize hbq:e1.B root=bm at *
    generalize hiq:w1.heap.size=ib at *
    generalize w1.alloc (.mapIter (some bm) clock #[] clock)=w2 at *
    clear bw hex G3 Kr
    show (Code.block q.k (.loop q.body)).wp P Q a2 w2
    refine wp_block (wp_loop_rounds (arr.size+1) ?_)
    generalize hhn:c.qH q.i2=hn at mZ
    obtain ⟨Zi,e3,e4,jB,KJ,h3,t3,hφ,hk,j1,j2,eO,HQ,tI⟩:=uO h2 mZ
    split at tI
    ·rename_i s2 es afd SR
     cases yP:s2.st||(!uv s2.lay [.s]||(s2.b||!aV KJ.bA q.d2)) with
     |true=>rw [yP] at tI;cases tI
     |false=>
      rw [yP] at tI
      simp only [cond_false] at tI
      simp only [Bool.or_eq_false_iff,Bool.not_eq_false'] at yP
      obtain ⟨c1,c2,c3,c4⟩:=yP
      have c2:=Jp c2
      obtain ⟨⟨n,ms⟩,hR,Jn⟩:=jx tI
      have Jn:=zu Jn
      obtain ⟨jT,FU⟩:=F8 hR
      have Ok:q.d2∈Zi.bA:=by rw [←j2.ke.defers.2.1];exact (aW _ _).1 c4
      have hTd:Zi.T q.d2= .pointer (some ⟨ib,0,none⟩):=by rw [←j2.T _ Ok];exact oh
      have hs4:=j2.ke.slot root
      rw [SR] at hs4
      have ab6:uu s2=false:=by simp [uu,c2]
      have hb4:e4.B root=bm:=by
       have:=hs4.1.1 sX
       rw [hto root cm,UB] at this
       simp [yJ,fG,ab6] at this
       exact this.symm
      have Yd:kM s2 arr clock es:=by
       obtain ⟨ob,k1,k2⟩:=hs4.2.obj
       rw [hb4,SQ] at k1
       cases k1
       obtain ⟨s3,ms3,k3,_,k4⟩:=k2
       simp only [List.cons.injEq,av.mp.injEq,and_true] at k3
       obtain ⟨rfl,rfl⟩:=k3
       exact k4
      have XU: ¬Zi.In bm:=by have:=j2.box root _ SR;rwa [hb4] at this
      have hbi:bm≠ib:=by intro he;rw [he,Rk] at SQ;cases SQ
      have JN: ∀(i:Nat) (x:MapEntry),arr[i]? =some x→x.born=i∧ ∃m,es[i]? =some m∧MP s2 x m i:=by
       intro i x hx
       have hi:i<es.length:=by rw [←Yd.size];exact (Array.getElem?_eq_some_iff.1 hx).1
       have he:=Yd.PW i x es[i] hx (List.getElem?_eq_getElem hi)
       exact ⟨he.1,es[i],List.getElem?_eq_getElem hi,he⟩
      have hold: ∀x∈arr.toList,x.born<clock:=by
       intro x hx
       obtain ⟨i,hi,he⟩:=List.mem_iff_getElem.1 hx
       have Ce:arr[i]? =some x:=by rw [←Array.getElem?_toList,List.getElem?_eq_getElem hi,he]
       rw [(JN i x Ce).1,Yd.clock,←Yd.size]
       simpa using hi
      have VY:(arr.toList.map (·.born)).Nodup:=by
       have:arr.toList.map (·.born)=List.range arr.toList.length:=by
        apply List.ext_getElem?
        intro i
        rw [List.getElem?_map]
        by_cases hi:i<arr.toList.length
        ·rw [List.getElem?_eq_getElem hi,List.getElem?_range hi]
         have Ce:arr[i]? =some arr.toList[i]:=by rw [←Array.getElem?_toList,List.getElem?_eq_getElem hi]
         simp only [Option.map_some,(JN i _ Ce).1]
        ·rw [List.getElem?_eq_none (by omega),List.getElem?_eq_none (by simp at hi⊢;omega)];rfl
       rw [this];exact List.nodup_range
      have hzw:(Zi.wd ib).bA=Zi.bA:=rfl
      have key: ∀(k:Nat) (φ:Ph) (a:Act) (w:World) (seen:Array Nat),eS c Z (Zi.wd ib) {e4 with φ:=φ} (pk cr KJ) hn a w→eS c (Zi.wd ib) (Zi.wd ib) {e4 with φ:=φ} KJ hn a w→
       Trans Z.In e2.φ w2 φ w→w.heap[ib]? =some (.mapIter (some bm) clock seen clock)→w.heap[bm]? =some (.map arr clock)→
       (∀b∈seen.toList,∃m,es[b]? =some m∧Rj c q KJ m=some (.inl ()))→(leftOf arr seen).size<k→Code.rounds P q.body (Exit.inBlock q.k Q) k a w:=by
       intro k
       induction k with
       |zero=>intro φ a w seen _ _ _ _ _ _ hl;omega
       |succ k ih=>
        intro φ a w seen j1 j2 t0 Rk SQ SS hl
        have UC:=aN Rk
        have ahy:=aN SQ
        have xT:a.tmps.getD q.d2 undef= .pointer (some ⟨ib,0,none⟩):=by rw [j2.T _ Ok];exact hTd
        have leave: ∀(n':Nat) (e6:Env) (Sy:St) (a6:Act) (w6:World) (w':World) (vs:List MV),eS c Z (Zi.wd ib) {e4 with φ:=φ} (pk cr KJ) hn a w'→Trans Z.In e2.φ w2 φ w'→ib<w'.heap.size→
         bn c ((Zi.wd ib).cv ib) e6 Sy a6 w6→Trans ((Zi.wd ib).cv ib).In φ w' e6.φ w6→TO Sy [] (hn.ex n') vs→(n',vs)=(n,ms)→Exit.inBlock q.k Q (fL n') a6 w6:=by
         intro n' e6 Sy a6 w6 w' vs jj tt we h6 t6 hT dJ
         cases dJ
         have jl:=(jj.Yb we).later t6 h6.jb h6.defers.1 h6.size h6.defers.2.2.2
         obtain ⟨s1,s2,s3⟩:=DP (hn:=hn) (e:=n)
         obtain ⟨e7,ZC,q1,q2,q3⟩:=uP jl h6 rfl ⟨s1,s2⟩ (s3 HQ) hT Jn
         refine tR (hQ _ e7 ZC a6 w6 q1 ?_ q3)
         rw [q2]
         exact t12.trans (tt.trans (t6.sup fun b hb=>jj.sub b hb.1))
        rw [rounds_succ]
        unfold Mi.body
        refine wp_seq ?_
        rcases run_next_at (P:=P) w q.a2.type ib bm clock clock seen arr clock Rk SQ hold (Nat.le_refl _) with ⟨hz,ZV⟩|⟨x,hxm,UD,Zs,ZV⟩
        ·have hD1:Uy c q KJ=some (n,ms):=by
          refine FU fun m hm=> ?_
          obtain ⟨i,hi,he⟩:=List.mem_iff_getElem.1 hm
          have ZK:i<arr.size:=by rw [Yd.size];exact hi
          have Ce:arr[i]? =some arr[i]:=Array.getElem?_eq_getElem ZK
          have hs:=all_seen arr seen hz arr[i] (by simp)
          rw [(JN i _ Ce).1] at hs
          obtain ⟨m',k1,k2⟩:=SS i (by simpa using hs)
          rw [List.getElem?_eq_getElem hi,he] at k1
          cases k1
          exact k2
         unfold Uy at hD1
         have hex:(execOp a.eval q.a2).run P w= .ok (.value (.tuple #[.bool false])) w:=by
          have hv:a.eval (.tmp q.d2)= .pointer (some ⟨ib,0,none⟩):=xT
          simp [execOp,m5,hv,ZV,Result.andThen]
         refine uZ l2 g3 (fin (s:= .dy [.sc (.p (.b false))]) hex (j2.SP UC) (.refl _ _ _) ⟨?_,trivial⟩ hD1) ?_
         ·simp only [af]
          exact ⟨_,rfl,.bool false,_,rfl,qC _,rfl,rfl⟩
         ·rintro a5 w5 ⟨e5,V8,h5,t5,NI⟩
          try dsimp only at NI
          refine DM hG (zO l2) h5 NI t5 ?_
          rintro a6 w6 ⟨e6,Sy,h6,t6,FB⟩
          try dsimp only at FB
          obtain ⟨Ye,_⟩:=h6.eval q.cx
          split at FB
          ·rename_i hb
           rw [hb] at Ye
           obtain ⟨vs,hT,dJ⟩:=iW FB
           simp only [Option.some.injEq] at dJ
           rw [hhn] at hT
           refine wp_seq (wp_cond_false (qQ Ye) (wp_exit ?_))
           exact leave (q.kx+2) e6 Sy a6 w6 w vs j1 t0 UC h6 t6 hT dJ
          ·cases FB
        ·obtain ⟨hxa,hxs⟩:=mem_left hxm
         obtain ⟨i,hi,he⟩:=List.mem_iff_getElem.1 hxa
         have Ce:arr[i]? =some x:=by rw [←Array.getElem?_toList,List.getElem?_eq_getElem hi,he]
         obtain ⟨uH,m,KG,ab7⟩:=JN i x Ce
         obtain ⟨_,ks,v,rfl,G0,Wa,VZ,Ti⟩:=ab7
         have Se:=Ea KG
         obtain ⟨res,oJ,yW⟩: ∃res,Rj c q KJ (.dy [.agg ks,v])=some res∧(res= .inl ()∨res= .inr (n,ms)):=by
          rcases jT _ Se with h|h
          ·exact ⟨_,h,.inl rfl⟩
          ·exact ⟨_,h,.inr rfl⟩
         obtain ⟨H6,rfl⟩: ∃H6,ks=[.s H6]:=by
          rw [c2] at G0
          match ks,G0 with
          |[.s l],_=>exact ⟨l,rfl⟩
         obtain ⟨n0,rfl⟩: ∃n0,v= .i .i64 n0:=by
          rw [c3] at VZ
          match v,VZ with
          | .i .i64 n0,_=>exact ⟨n0,rfl⟩
         have Wa:x.key= .string ⟨H6.toArray⟩:=by rw [Wa,c1];rfl
         have Ti:x.val= .int .i64 n0:=by rw [Ti,c3];rfl
         have Yf:=oJ
         unfold Rj at oJ
         simp only [D8,gT,gC,gA,gN,gS,gI,decide_true,cond_true] at oJ
         have hzi:(Zi.wd ib).In ib:= .inr rfl
         have nr:Trans (Zi.wd ib).In φ w φ (ChangeMaps.setBlock UD ib (.mapIter (some bm) clock (seen.push x.born) clock)):=
          H5 hzi Zs Rk (fun _ _ _ h=>by cases h) (fun _ _ _ h=>by cases h)
         have hh1:UD.heap=w.heap:=by rcases Zs with rfl|rfl<;>rfl
         have Rl:(ChangeMaps.setBlock UD ib (.mapIter (some bm) clock (seen.push x.born) clock)).heap[ib]? =some (.mapIter (some bm) clock (seen.push x.born) clock):=by
          simp [ChangeMaps.setBlock,hh1,UC]
         have gK:uq φ (ChangeMaps.setBlock UD ib (.mapIter (some bm) clock (seen.push x.born) clock)):=by
          intro b o u hu
          have h0:=j2.ke.jb b o u hu
          have ab9:b≠ib:=by
           intro HA
           subst HA
           have:w.cell? ⟨b,o,none⟩=none:=by simp [World.cell?,Rk]
           rw [this] at h0;cases h0
          have mr:(ChangeMaps.setBlock UD ib (.mapIter (some bm) clock (seen.push x.born) clock)).heap[b]? =w.heap[b]? :=by
           simp only [ChangeMaps.setBlock,hh1]
           rw [Array.getElem?_setIfInBounds_ne (Ne.symm ab9)]
          rw [World.cell?_of_block mr];exact h0
         have Ox:(ChangeMaps.setBlock UD ib (.mapIter (some bm) clock (seen.push x.born) clock)).heap[bm]? =some (.map arr clock):=by
          simp only [ChangeMaps.setBlock,hh1]
          rw [Array.getElem?_setIfInBounds_ne (Ne.symm hbi)];exact SQ
         generalize ChangeMaps.setBlock UD ib (.mapIter (some bm) clock (seen.push x.born) clock)=w' at ZV nr Rl gK Ox
         have J1:=j1.later nr gK j1.ke.defers.1 j1.ke.size j1.T
         have J2:=j2.later nr gK j2.ke.defers.1 j2.ke.size j2.T
         have T0:=t0.trans (nr.sup j1.sub)
         have JO:=aN Rl
         have S:=J2.SP JO
         have hex:(execOp a.eval q.a2).run P w= .ok (.value (.tuple #[.bool true,x.key,x.val])) w':=by
          have hv:a.eval (.tmp q.d2)= .pointer (some ⟨ib,0,none⟩):=xT
          simp [execOp,m5,hv,ZV,Result.andThen]
         have kS: ∀ee:Env,af ee x.key (.sc (.p (.s H6))):=fun ee=>by
          have:=MU (e:=ee) ⟨H6.toArray⟩
          rw [Wa];simpa using this
         have vS: ∀ee:Env,af ee x.val (.sc (.p (.i .i64 n0))):=fun ee=>by rw [Ti];exact lG _ _
         obtain ⟨e5,V8,h5,NI,hφ5⟩:=bW (v:= .tuple #[.bool true,x.key,x.val]) (s:= .dy [.sc (.p (.b true)),.sc (.p (.s H6)),.sc (.p (.i .i64 n0))]) S ⟨by
          simp only [af]
          exact ⟨_,rfl,.bool true,_,rfl,qC _,rfl,x.key,_,rfl,kS _,rfl,x.val,[],rfl,vS _,rfl,rfl⟩,trivial⟩ oJ
         refine uZ l2 g3 (nx:=fun a5 w5=>a5=a.put q.a2.dst (.tuple #[.bool true,x.key,x.val])∧w5=w') ?_ ?_
         ·unfold Oper.wp
          rw [hex,Oper.upon_value]
          exact ⟨rfl,rfl⟩
         ·rintro a5 w5 ⟨rfl,rfl⟩
          refine DM hG (zO l2) h5 NI (φ0:=φ) (w0:=w5) (by rw [hφ5];exact .refl _ _ _) ?_
          rintro a6 w6 ⟨e6,Sy,h6,t6,FB⟩
          try dsimp only at FB
          obtain ⟨Ye,_⟩:=h6.eval q.cx
          split at FB
          ·rename_i hb
           rw [hb] at Ye
           refine wp_seq (wp_cond_true (qQ Ye) (wp_skip ?_))
           refine wp_block (wp_seq ?_)
           have Yg: ¬((Zi.wd ib).cv ib).In ib:=fun hz=>hz.2 rfl
           have Yh: ¬((Zi.wd ib).cv ib).In bm:=fun hz=>hz.1.elim XU hbi
           have aca:w6.heap[ib]? =some (.mapIter (some bm) clock (seen.push x.born) clock):=by rw [t6.heap ib Yg JO];exact Rl
           have acb:w6.heap[bm]? =some (.map arr clock):=by rw [t6.heap bm Yh (aN Ox)];exact Ox
           have Yi:=run_entry_at (P:=P) w6 ib bm clock seen arr clock x aca acb hxa VY
           have Yj:a6.eval (.tmp q.d2)= .pointer (some ⟨ib,0,none⟩):=by
            have:=h6.defers.2.2.2 q.d2 Ok
            show a6.tmps.getD q.d2 undef=_
            rw [this];exact hTd
           have acd:(execOp a6.eval q.a3).run P w6= .ok (.value (.tuple #[x.key,x.val])) w6:=by
            simp [execOp,m6,Yj,Yi,Result.andThen]
           refine uZ l3 g4 (fin (s:= .dy [.sc (.p (.s H6)),.sc (.p (.i .i64 n0))]) acd h6 (.refl _ _ _) ⟨?_,trivial⟩ FB) ?_
           ·simp only [af]
            exact ⟨_,rfl,x.key,_,rfl,kS _,rfl,x.val,[],rfl,vS _,rfl,rfl⟩
           ·rintro a7 w7 ⟨e7,ZC,h7,t7,hK7⟩
            try dsimp only at hK7
            refine DM hG (zO l3) h7 hK7 (t6.trans t7) ?_
            rintro a8 w8 ⟨e8,st8,h8,t8,hK8⟩
            try dsimp only at hK8
            refine nA hG hD q.rest h8 hK8 ?_
            intro n' e9 st9 a9 w9 h9 t9 UE
            try dsimp only at UE
            have t89:=t8.trans t9
            cases QZ:Nat.beq n' 0||Nat.beq n' (q.k5+2) with
            |true=>
             rw [QZ] at UE
             simp only [cond_true,Option.some.injEq] at UE
             have HS:Code.rounds P q.body (Exit.inBlock q.k Q) k a9 w9:=by
              have tW:Trans (Zi.wd ib).In φ w5 e9.φ w9:=t89.sup fun b hb=>hb.1
              refine ih e9.φ a9 w9 (seen.push x.born) (J1.later tW h9.jb h9.defers.1 h9.size h9.defers.2.2.2) (J2.later tW h9.jb h9.defers.1 h9.size h9.defers.2.2.2) (T0.trans (tW.sup j1.sub)) ?_ ?_ ?_ ?_
              ·rw [t89.heap ib Yg JO];exact Rl
              ·rw [t89.heap bm Yh (aN Ox)];exact Ox
              ·intro b Rm
               simp only [Array.toList_push,List.mem_append,List.mem_singleton] at Rm
               rcases Rm with Rm|rfl
               ·exact SS b Rm
               ·rw [uH];exact ⟨_,KG,by rw [Yf,←UE]⟩
              ·have:=left_shrinks arr seen x hxm
               omega
             refine tR (Q:=Exit.then (Code.rounds P q.body (Exit.inBlock q.k Q) k) (Exit.inBlock q.k Q)) ?_
             have:(bif Nat.beq n' (q.k5+2) then 0 else n')=0:=by
              rcases Bool.or_eq_true_iff.1 QZ with h|h
              ·have:=Nat.eq_of_beq_eq_true h;subst this;cases Nat.beq 0 (q.k5+2)<;>rfl
              ·rw [h];rfl
             rw [this]
             exact HS
            |false=>
             rw [QZ] at UE
             simp only [cond_false] at UE
             obtain ⟨vs,hT,dJ⟩:=iW UE
             simp only [Option.some.injEq] at dJ
             rw [hhn] at hT
             simp only [Bool.or_eq_false_iff] at QZ
             have L2:n'≠0:=by intro he;rw [he] at QZ;simp [cw] at QZ
             have ace:(n',vs)=(n,ms):=by
              rcases yW with h|h
              ·rw [h] at dJ;cases dJ
              ·rw [h] at dJ;cases dJ;rfl
             have:=leave n' e9 st9 a9 w9 w5 vs J1 T0 JO h9 t89 hT ace
             refine tR (Q:=Exit.then (Code.rounds P q.body (Exit.inBlock q.k Q) k) (Exit.inBlock q.k Q)) ?_
             rw [QZ.2]
             simp only [cond_false]
             rw [oL L2]
             exact this
          ·cases FB
      have hφ4:{e4 with φ:=e4.φ}=e4:=by cases e4;rfl
      refine key (arr.size+1) e4.φ a2 w2 #[] (by rw [hφ4];exact j1.wide ab4 Rk) (by rw [hφ4];exact j2.Yc Rk) (by rw [hφ];exact t3) Rk SQ (by simp) ?_
      have:(leftOf arr #[]).size≤arr.size:=by unfold leftOf;exact Array.size_filter_le
      omega
    ·cases tI
  ·cases fU
 ·cases fU
end
end Dn
/-
  Functions of the library as table entries. Conditions: none.
-/
set_option linter.unusedVariables false
namespace Dn
open Go
def tS (size bytes:Nat):List MV→Option MV
 |[.list xs]=>bif lc size xs&&Nat.ble (xs.length *bytes) (2^46) then some (.fresh xs) else none
 |_=>none
def pN (bytes:Nat):List MV→Option MV
 |[.fresh xs,.i .i64 i,.fresh ys]=>bif decide (0≤i)&&(Nat.ble i.toNat xs.length&&(!ys.isEmpty&&Nat.ble ((xs.length+ys.length) *bytes) (2^46))) then some (.fresh (xs.take i.toNat++ys++xs.drop i.toNat)) else none
 |_=>none
theorem F9 {size bytes:Nat} {ms:List MV} {r:MV} (h:tS size bytes ms=some r): ∃xs,ms=[.list xs]∧r= .fresh xs∧lc size xs=true∧xs.length *bytes≤2^46:=by
 unfold tS at h
 split at h
 ·rename_i xs
  cases hb:lc size xs&&Nat.ble (xs.length *bytes) (2^46) with
  |false=>simp [hb] at h
  |true=>
   simp only [hb,cond_true,Option.some.injEq] at h
   simp only [Bool.and_eq_true] at hb
   exact ⟨xs,rfl,h.symm,hb.1,Nat.le_of_ble_eq_true hb.2⟩
 ·cases h
theorem Eb {bytes:Nat} {ms:List MV} {r:MV} (h:pN bytes ms=some r): ∃xs ys i,ms=[.fresh xs,.i .i64 ((i:Nat):Int),.fresh ys]∧r= .fresh (xs.take i++ys++xs.drop i)∧i≤xs.length∧ys≠[]∧(xs.length+ys.length) *bytes≤2^46:=by
 unfold pN at h
 split at h
 ·rename_i xs i ys
  cases hb:decide (0≤i)&&(Nat.ble i.toNat xs.length&&(!ys.isEmpty&&Nat.ble ((xs.length+ys.length) *bytes) (2^46))) with
  |false=>rw [hb] at h;cases h
  |true=>
   simp only [hb,cond_true,Option.some.injEq] at h
   simp only [Bool.and_eq_true,decide_eq_true_eq,Bool.not_eq_true'] at hb
   obtain ⟨h1,h2,h3,h4⟩:=hb
   refine ⟨xs,ys,i.toNat,?_,h.symm,Nat.le_of_ble_eq_true h2,?_,Nat.le_of_ble_eq_true h4⟩
   ·rw [Int.toNat_of_nonneg h1]
   ·intro hy;subst hy;simp at h3
 ·cases h
theorem aC.none (P:Program) (c:Ctx):aC P c (fun _ _=>Option.none):=⟨fun f ms r h=>by cases h⟩
theorem aC.Yk {P:Program} {c:Ctx} {g:Nat→List MV→Option MV} {n:Nat} {F:List MV→Option MV} (h:aC P c g) (nW: ∀f,c.key f=f) (hF: ∀ms r,F ms=some r→jD P c n ms r):aC P c (bS n F g):=
 h.add (fun f ms r hk hr=>by
  rw [nW] at hk
  rw [hk]
  exact hF ms r hr)
def pO:Code→List Oper
 | .region _ ops _=>ops.toList
 | .seq x y=>pO x++pO y
 | .cond _ x y=>pO x++pO y
 | .block _ x=>pO x
 | .loop x=>pO x
 |_=>[]
def Bs (fn:Func) (d:Oper) (k:Nat):Oper:=match fn.body with|some c=>(pO c).getD k d|none=>d
def Rn (o:Nat→Oper):Code:= .seq (.region 18 #[o 83,o 84,o 85,o 86,o 87] false) (.seq (.region 19 #[o 88,o 89,o 90,o 91,o 92] false) (.seq (.region 20 #[o 93,o 94] false) .ret))
def Bt:Oper:={dst:=none,op:= .move (.tmp 0),type:=0,pos:= "",after:= #[],guard:=none}
end Dn
/-
  Reasoning about functions on values. Conditions: none.
-/
set_option linter.unusedVariables false
namespace Dn
open Go
section
variable {R:Type}
@[simp] theorem ahC (x : Bool) (K : Bool → Option R) : gB (.b x) K = K x := (rfl)
@[simp] theorem ahD (k : IntKind) (x : Int) (K : Int → Option R) : gI k (.i k x) K = K x := by simp [gI]
@[simp] theorem ahE (x : List UInt8) (K : List UInt8 → Option R) : gS (.s x) K = K x := (rfl)
@[simp] theorem ahF (x : List MV) (K : List MV → Option R) : gL (.list x) K = K x := (rfl)
@[simp] theorem ahG (x : fm) (K : fm → Option R) : gH (.h x) K = K x := (rfl)
@[simp] theorem ahH (x : List MV) (K : List MV → Option R) : gA (.agg x) K = K x := (rfl)
@[simp] theorem ahI (x : List MV) (K : List MV → Option R) : gT (.dy x) K = K x := (rfl)
@[simp] theorem ahJ (x : List MV) (K : List MV → Option R) : gF (.fresh x) K = K x := (rfl)
@[simp] theorem afn (f : Nat) (x : List MV) (K : Nat → List MV → Option R) : R3 (.func f x) K = K f x := (rfl)
@[simp] theorem ahK (f : Nat) (x : List MV) (K : MV → Option R) : gR (.func f x) K = K (.func f x) := (rfl)
@[simp] theorem ahL (m : MV) (r : List MV) (K : MV → List MV → Option R) : gC (m :: r) K = K m r := (rfl)
@[simp] theorem ahM (K : Option R) : gN [] K = K := (rfl)
@[simp] theorem aq {α : Type} (a : α) (K : α → Option R) : bd (some a) K = K a := (rfl)
@[simp] theorem afo (a b : Nat) : Nat.beq a b = decide (a = b) := cw a b
@[simp] theorem Yl (K : Option R) : cE true K = K := (rfl)
@[simp] theorem Ym (x y : Option R) : aR true x y = x := (rfl)
@[simp] theorem Wk (x y : Option R) : aR false x y = y := (rfl)
end
theorem Ro {x:Int} (h1: -9223372036854775808≤x) (h2:x≤9223372036854775807):IntKind.wrap .i64 x=x:=by rw [IntKind.wrap_i64];omega
theorem UF {i j:Nat} (h:i+j<2^62):IntKind.wrap .i64 (Int.fdiv (IntKind.wrap .u64 (IntKind.wrap .i64 ((i:Int)+(j:Int)))) (2^min (Int.toNat 1) (IntKind.bits .u64)))=(((i+j)/2:Nat):Int):=by
 have h1:IntKind.wrap .i64 ((i:Int)+(j:Int))=((i+j:Nat):Int):=by rw [IntKind.wrap_i64];omega
 have h2:IntKind.wrap .u64 ((i+j:Nat):Int)=((i+j:Nat):Int):=by
  have:IntKind.wrap .u64 ((i+j:Nat):Int)=((i+j:Nat):Int)%18446744073709551616:=by simp [IntKind.wrap,IntKind.signed,IntKind.bits]
  rw [this];omega
 have h3:(2:Int)^min (Int.toNat 1) (IntKind.bits .u64)=2:=by decide
 rw [h1,h2,h3,Int.fdiv_eq_ediv_of_nonneg _ (by omega)]
 rw [IntKind.wrap_i64];omega
section
variable {σ R:Type} {body:σ→Option (Sum σ R)}
theorem CH {n:Nat} {s:σ} {r:R} (h:iter body n s=some r): ∀{m:Nat},n≤m→iter body m s=some r:=by
 induction n generalizing s with
 |zero=>cases h
 |succ n ih=>
  intro m hm
  obtain ⟨m,rfl⟩: ∃k,m=k+1:=⟨m-1,by omega⟩
  simp only [iter] at h⊢
  cases hb:body s with
  |none=>rw [hb] at h;cases h
  |some x=>
   rw [hb] at h
   cases x with
   |inl s'=>exact ih h (by omega)
   |inr r'=>exact h
theorem ea {n:Nat} {s:σ} {r:R} (h:iter body n s=some r):Loop body s=some r:=by
 have he: ∃r n,iter body n s=some r:=⟨r,n,h⟩
 unfold Loop
 rw [dif_pos he]
 obtain ⟨m,hm⟩:=Classical.choose_spec he
 have h1:=CH h (Nat.le_max_left n m)
 have h2:=CH hm (Nat.le_max_right n m)
 rw [h1] at h2
 exact h2.symm
theorem Oy (I:σ→Prop) (μ:σ→Nat) (Q:R→Prop) (h: ∀s,I s→(∃s',body s=some (.inl s')∧I s'∧μ s'<μ s)∨(∃r,body s=some (.inr r)∧Q r)) {s:σ} (hs:I s): ∃r,Loop body s=some r∧Q r:=by
 have key: ∀k s,I s→μ s<k→ ∃r,iter body k s=some r∧Q r:=by
  intro k
  induction k with
  |zero=>intro s _ h;omega
  |succ k ih=>
   intro s hs hk
   rcases h s hs with ⟨s',e,hi,hm⟩|⟨r,e,hq⟩
   ·obtain ⟨r,e2,hq⟩:=ih s' hi (by omega)
    exact ⟨r,by simp only [iter,e];exact e2,hq⟩
   ·exact ⟨r,by simp only [iter,e],hq⟩
 obtain ⟨r,e,hq⟩:=key (μ s+1) s hs (by omega)
 exact ⟨r,ea e,hq⟩
theorem Oz (S:Nat→σ) (N:Nat) (Q:R→Prop) (P:Nat→Prop) (h0:P 0) (h: ∀k,k<N→P k→(body (S k)=some (.inl (S (k+1)))∧P (k+1))∨(∃r,body (S k)=some (.inr r)∧Q r)) (he:P N→ ∃r,body (S N)=some (.inr r)∧Q r): ∃r,Loop body (S 0)=some r∧Q r:=by
 have key: ∀d k,k+d=N→P k→ ∃r,iter body (d+1) (S k)=some r∧Q r:=by
  intro d
  induction d with
  |zero=>
   intro k hk hp
   have:k=N:=by omega
   subst this
   obtain ⟨r,e,hq⟩:=he hp
   exact ⟨r,by simp only [iter,e],hq⟩
  |succ d ih=>
   intro k hk hp
   rcases h k (by omega) hp with ⟨e,yT⟩|⟨r,e,hq⟩
   ·obtain ⟨r,e2,hq⟩:=ih (k+1) (by omega) yT
    exact ⟨r,by rw [iter,e];exact e2,hq⟩
   ·exact ⟨r,by rw [iter,e],hq⟩
 obtain ⟨r,e,hq⟩:=key N 0 (by omega) h0
 exact ⟨r,ea e,hq⟩
end
end Dn
/-
  From functions on plain values to functions on typed values. Conditions: none.
-/
set_option linter.unusedVariables false
namespace Dn
open Go
def cI {R:Type} (l:List MV) (K:Nat→Option R):Option R:=K l.length
def ix {α R:Type} (l:List α) (i:Int) (K:α→Option R):Option R:=
 match (if 0≤i then l[i.toNat]? else none) with|some x=>K x|none=>none
def u5 (l:List UInt8):List Int:=l.map fun b=>(b.toNat:Int)
@[simp] theorem sb (l : List UInt8) : E0 l = (u5 l).map (MV.i .u8) := by unfold E0 u5; rw [List.map_map]; rfl
def Ec {α:Type} (bytes:Nat) (l:List α):Option (List α):=if l.length *bytes≤2^46 then some l else none
def u6 {α:Type} (bytes:Nat) (xs:List α) (i:Int) (ys:List α):Option (List α):=
 if 0≤i∧i.toNat≤xs.length∧ys≠[]∧(xs.length+ys.length) *bytes≤2^46 then some (xs.take i.toNat++ys++xs.drop i.toNat) else none
@[reducible] def Ld {α : Type} (f : α → MV) (l : List α) : MV := .list (l.map f)
@[reducible] def Lf {α : Type} (f : α → MV) (l : List α) : MV := .fresh (l.map f)
def Sm {A B:Type} (g:B→A) (x:Option A) (y:Option B):Prop:=x=y.map g
section
variable {A B A' B' α:Type} {g:B→A} {T:Option B}
theorem Sm.at {x x':Option A} (e:x=x') (h:Sm g x' T):Sm g x T:=e▸h
theorem aI {l:List MV} {K:List MV→Option A} (h:Sm g (K l) T):Sm g (gA (.agg l) K) T:=h
theorem aH {x:Bool} {K:Bool→Option A} (h:Sm g (K x) T):Sm g (gB (.b x) K) T:=h
theorem df {x:List UInt8} {K:List UInt8→Option A} (h:Sm g (K x) T):Sm g (gS (.s x) K) T:=h
theorem bx {x:List MV} {K:List MV→Option A} (h:Sm g (K x) T):Sm g (gL (.list x) K) T:=h
theorem u7 {x:MV} {outs:List MV} {K:MV→List MV→Option A} (h:Sm g (K x outs) T):Sm g (gW (.mh x outs) K) T:=h
theorem fB {x:List MV} {K:List MV→Option A} (h:Sm g (K x) T):Sm g (gT (.dy x) K) T:=h
theorem qw {x:List MV} {K:List MV→Option A} (h:Sm g (K x) T):Sm g (gF (.fresh x) K) T:=h
theorem OA {f:Nat} {x:List MV} {K:Nat→List MV→Option A} (h:Sm g (K f x) T):Sm g (R3 (.func f x) K) T:=h
theorem UG {f:Nat} {x:List MV} {K:MV→Option A} (h:Sm g (K (.func f x)) T):Sm g (gR (.func f x) K) T:=h
theorem OB {v:Value} {K:MV→Option A} (h:Sm g (K (.raw v)) T):Sm g (gR (.raw v) K) T:=h
theorem ax {k:IntKind} {n:Int} {K:Int→Option A} (h:Sm g (K n) T):Sm g (gI k (.i k n) K) T:=by simpa using h
theorem aj {m:MV} {r:List MV} {K:MV→List MV→Option A} (h:Sm g (K m r) T):Sm g (gC (m::r) K) T:=h
theorem aB {K:Option A} (h:Sm g K T):Sm g (gN [] K) T:=h
theorem ao {x:Option A'} {y:Option B'} {f:B'→A'} {K:A'→Option A} {K':B'→Option B} (h:Sm f x y) (hk: ∀b,Sm g (K (f b)) (K' b)):Sm g (bd x K) (bd y K'):=by
 unfold Sm at h;subst h
 cases y with
 |none=>rfl
 |some b=>exact hk b
theorem aK {p:Prop} [Decidable p] {X Y:Option A} {X' Y':Option B} (h1:Sm g X X') (h2:Sm g Y Y'):Sm g (aR (decide p) X Y) (if p then X' else Y'):=by
 by_cases h:p<;>simpa [h] using (by assumption)
theorem ar {c:Bool} {X Y:Option A} {X' Y':Option B} (h1:Sm g X X') (h2:Sm g Y Y'):Sm g (aR c X Y) (if c then X' else Y'):=by
 cases c<;>simpa using (by assumption)
theorem dM {p:Prop} [Decidable p] {X:Option A} {X':Option B} (h1:Sm g X X'):Sm g (cE (decide p) X) (if p then X' else none):=by
 by_cases h:p
 ·simpa [h] using h1
 ·simp [h,cE,Sm]
theorem Rq {c:Bool} {X:Option A} {X':Option B} (h1:Sm g X X'):Sm g (cE c X) (if c then X' else none):=by
 cases c
 ·simp [cE,Sm]
 ·simpa using h1
theorem b8 {c:Bool} {X:Option A} (hc:c=true) (h:Sm g X T):Sm g (cE c X) T:=by subst hc;exact h
theorem iv {c:Bool} {X Y:Option A} (hc:c=true) (h:Sm g X T):Sm g (aR c X Y) T:=by subst hc;exact h
theorem iw {c:Bool} {X Y:Option A} (hc:c=false) (h:Sm g Y T):Sm g (aR c X Y) T:=by subst hc;exact h
theorem aY {l:List MV} {n:Nat} {K:Nat→Option A} (e:l.length=n) (h:Sm g (K n) T):Sm g (cI l K) T:=by subst e;exact h
theorem bc {l:List MV} {M:List α} {f:α→MV} {i:Int} {K:MV→Option A} {K':α→Option B} (e:l=M.map f) (h: ∀y,Sm g (K (f y)) (K' y)):Sm g (idx l i K) (ix M i K'):=by
 subst e
 unfold idx S4 ix
 by_cases hi:0≤i
 ·simp only [hi,if_true,List.getElem?_map]
  cases M[i.toNat]? with
  |none=>rfl
  |some y=>exact h y
 ·simp only [hi,if_false];rfl
theorem yt {C:Type} {x:Option C} {K:C→Option A} {K':C→Option B} (h: ∀b,Sm g (K b) (K' b)):Sm g (bd x K) (bd x K'):=by
 cases x with
 |none=>rfl
 |some b=>exact h b
theorem Ed {a b:Nat} {K:Nat→Nat→Option A} (h:Sm g (K a b) T):Sm g (P6 (.raw (.complex .f64 a b)) K) T:=h
def Ga {R:Type} (l:List Int) (K:List UInt8→Option R):Option R:=if l.all isByte then K (l.map fun n=>UInt8.ofNat n.toNat) else none
theorem OC {R:Type} {M:List Int}: ∀{K:List UInt8→Option R},Dq (M.map (MV.i .u8)) K=Ga M K:=by
 induction M with
 |nil=>intro K;rfl
 |cons n M ih=>
  intro K
  simp only [List.map_cons,Dq,byK,gI,decide_true,cond_true,ih]
  cases h:isByte n<;>simp [cE,Ga,h]
theorem UH {l:List MV} {M:List Int} {K:List UInt8→Option A} {K':List UInt8→Option B} (e:l=M.map (MV.i .u8)) (h: ∀b,Sm g (K b) (K' b)):Sm g (Dq l K) (Ga M K'):=by
 subst e
 rw [OC]
 unfold Ga
 split
 ·exact h _
 ·rfl
theorem ab {d:A} {a:B} (e:d=g a):Sm g (some d) (some a):=by subst e;rfl
theorem u9 {n:Nat} {l:List MV} {M:List α} {f:α→MV} (e:l=M.map f) (h: ∀x,(f x).w=n):lc n l=true:=by
 subst e
 unfold lc
 rw [List.all_map,List.all_eq_true]
 intro x _
 simp [h x]
theorem Gb {σ σ' ρ ρ':Type} {e:σ'→σ} {f:ρ'→ρ} {K:σ→Option (Sum σ ρ)} {K':σ'→Option (Sum σ' ρ')} (h: ∀s,Sm (Sum.map e f) (K (e s)) (K' s)) (n:Nat) (s:σ'):iter K n (e s)=(iter K' n s).map f:=by
 induction n generalizing s with
 |zero=>rfl
 |succ n ih=>
  have:=h s
  unfold Sm at this
  simp only [iter,this]
  cases K' s with
  |none=>rfl
  |some x=>cases x with
   |inl s'=>exact ih s'
   |inr r=>rfl
theorem CI {σ ρ:Type} {K:σ→Option (Sum σ ρ)} {s:σ} (h: ∀n,iter K n s=none):Loop K s=none:=by
 unfold Loop
 rw [dif_neg]
 rintro ⟨r,n,e⟩
 rw [h] at e;cases e
theorem cT {σ σ' ρ ρ':Type} {K:σ→Option (Sum σ ρ)} {K':σ'→Option (Sum σ' ρ')} {d0:σ} {s0:σ'} (e:σ'→σ) (f:ρ'→ρ) (e0:d0=e s0) (h: ∀s,Sm (Sum.map e f) (K (e s)) (K' s)):Sm f (Loop K d0) (Loop K' s0):=by
 subst e0
 unfold Sm
 by_cases hx: ∃r n,iter K' n s0=some r
 ·obtain ⟨r,n,hn⟩:=hx
  rw [ea hn]
  have:iter K n (e s0)=some (f r):=by rw [Gb h,hn];rfl
  rw [ea this];rfl
 ·have h1: ∀n,iter K' n s0=none:=fun n=>by
   cases hn:iter K' n s0 with
   |none=>rfl
   |some r=>exact absurd ⟨r,n,hn⟩ hx
  rw [CI h1,CI fun n=>by rw [Gb h,h1];rfl];rfl
theorem Rr {size bytes:Nat} {f:α→MV} (hw: ∀x,(f x).w=size) (l:List α):Sm (Lf f) (tS size bytes [.list (l.map f)]) (Ec bytes l):=by
 unfold Sm tS Ec
 simp only [u9 (rfl:l.map f=l.map f) hw,Bool.true_and,List.length_map]
 by_cases h:l.length *bytes≤2^46
 ·rw [show Nat.ble (l.length *bytes) (2^46)=true from Nat.ble_eq_true_of_le h,if_pos h];rfl
 ·rw [show Nat.ble (l.length *bytes) (2^46)=false from by rw [Bool.eq_false_iff];intro hb;exact h (Nat.le_of_ble_eq_true hb),if_neg h];rfl
theorem OD {bytes:Nat} {f:α→MV} (xs:List α) (i:Int) (ys:List α):Sm (Lf f) (pN bytes [.fresh (xs.map f),.i .i64 i,.fresh (ys.map f)]) (u6 bytes xs i ys):=by
 unfold Sm pN u6
 simp only [List.length_map]
 have hb: ∀a b:Nat,Nat.ble a b=decide (a≤b):=fun a b=>by
  by_cases h:a≤b
  ·rw [Nat.ble_eq_true_of_le h,decide_eq_true h]
  ·rw [decide_eq_false h,Bool.eq_false_iff];intro hh;exact h (Nat.le_of_ble_eq_true hh)
 rw [hb,hb]
 have he:(ys.map f).isEmpty=decide (ys=[]):=by cases ys<;>simp
 rw [he]
 by_cases h1:0≤i<;>by_cases h2:i.toNat≤xs.length<;>by_cases h3:ys=[]<;>by_cases h4:(xs.length+ys.length) *bytes≤2^46<;>simp [h1,h2,h3,h4,Lf]
end
abbrev UI (f:Option MV):List MV→Option MV|[]=>f|_=>none
abbrev gd (f:MV→Option MV):List MV→Option MV|[a]=>f a|_=>none
abbrev nd (f:MV→MV→Option MV):List MV→Option MV|[a,b]=>f a b|_=>none
abbrev Ee (f:MV→MV→MV→Option MV):List MV→Option MV|[a,b,c]=>f a b c|_=>none
abbrev OE (f:MV→MV→MV→MV→Option MV):List MV→Option MV|[a,b,c,d]=>f a b c d|_=>none
theorem Rs {f:Option MV} {B:List MV→Option MV} (h:B []=f) {ms:List MV} {r:MV} (e:UI f ms=some r):B ms=some r:=by
 unfold UI at e;split at e
 ·rw [h];exact e
 ·cases e
theorem bU {f:MV→Option MV} {B:List MV→Option MV} (h: ∀a,B [a]=f a) {ms:List MV} {r:MV} (e:gd f ms=some r):B ms=some r:=by
 unfold gd at e;split at e
 ·rw [h];exact e
 ·cases e
theorem dq {f:MV→MV→Option MV} {B:List MV→Option MV} (h: ∀a b,B [a,b]=f a b) {ms:List MV} {r:MV} (e:nd f ms=some r):B ms=some r:=by
 unfold nd at e;split at e
 ·rw [h];exact e
 ·cases e
theorem pP {f:MV→MV→MV→Option MV} {B:List MV→Option MV} (h: ∀a b c,B [a,b,c]=f a b c) {ms:List MV} {r:MV} (e:Ee f ms=some r):B ms=some r:=by
 unfold Ee at e;split at e
 ·rw [h];exact e
 ·cases e
theorem Ef {f:MV→MV→MV→MV→Option MV} {B:List MV→Option MV} (h: ∀a b c d,B [a,b,c,d]=f a b c d) {ms:List MV} {r:MV} (e:OE f ms=some r):B ms=some r:=by
 unfold OE at e;split at e
 ·rw [h];exact e
 ·cases e
theorem aC.fn {P:Program} {c c':Ctx} {g:Nat→List MV→Option MV} {n:Nat} {fn:Func} {bo:List (List Kd)} {F:List MV→Option MV} (h:aC P c g) (hl:tP c c') (Mh:c'.g=g) (jy:fI P c.ti) (dJ:Dy P c.ti) (yL: ∀t k,c.fk t=some k→P.underlying t=some (.float k)) (ES:qV P c) (xV:P.follows .mixedOrders=true) (wA:mz P c)
 (hf:P.funcs[n]? =some fn) (hh:s9 c' n fn bo=true) (nW: ∀f,c.key f=f) {fresh:Option Nat} (xR:tQ c' n fn fresh=true) (hF: ∀{ms r},F ms=some r→B9 c' bo fresh fn ms=some r):aC P c (bS n F g):=by
 have hb:=aC.body h hl Mh jy dJ yL ES xV wA hf hh nW xR
 refine h.add (fun f ms r hk hr=> ?_)
 refine hb.all f ms r ?_
 unfold bS
 rw [hk]
 simp [hF hr]
def OG {α:Type} (p:α→Option Bool):List α→Option (List α)
 |[]=>some []
 |x::xs=>bd (p x) fun b=>bd (OG p xs) fun ys=>some (if b then ys else x::ys)
def OH {α σ:Type} (p:α→σ→Option (Bool×σ)):σ→List α→Option (List α×σ)
 |s,[]=>some ([],s)
 |s,x::xs=>bd (p x s) fun q=>bd (OH p q.2 xs) fun r=>some (if q.1 then r.1 else x::r.1,r.2)
end Dn
/-
  A function's body in which a map is gone through, or a label stands. Conditions: none.
-/
set_option linter.unusedSimpArgs false
set_option linter.unusedVariables false
namespace Dn
open Go
section
variable {P:Program} {c:Ctx} {R:Type} {r:R}
theorem H7 {a b:Code} {l:Nat} (h:Ow a b=some l):a= .goto l∧b= .skip:=by
 unfold Ow at h
 split at h
 ·cases h;exact ⟨rfl,rfl⟩
 ·cases h
theorem OI (hG:Good P c) (hD:zv P c) {l:Nat} {G:St→Option R}: ∀(code:Code) {Z:aX} {e:Env} {st:St} {a:Act} {w:World} {K:Nat→St→Option R} {Q:Exit→Act→World→Prop},bn c Z e st a w→zN c l G code st K=some r→
 (∀n e' bj a' w',bn c Z e' bj a' w'→Trans Z.In e.φ w e'.φ w'→K n bj=some r→Q (fL n) a' w')→
 (∀e' bj a' w',bn c Z e' bj a' w'→Trans Z.In e.φ w e'.φ w'→G bj=some r→Q (.goto l) a' w')→code.wp P Q a w:=by
 intro code
 induction code with
 |seq x y ihx Sx=>
  intro Z e st a w K Q h hK hQ hJ
  simp only [zN] at hK
  refine wp_seq (ihx h hK ?_ ?_)
  ·intro n e1 cb a1 w1 h1 t1 fU
   by_cases hn:n=0
   ·subst hn
    exact Sx h1 fU (fun n e2 cr a2 w2 h2 t2 mZ=>hQ n e2 cr a2 w2 h2 (t1.trans t2) mZ) (fun e2 cr a2 w2 h2 t2 mZ=>hJ e2 cr a2 w2 h2 (t1.trans t2) mZ)
   ·rw [oL hn]
    have:Nat.beq n 0=false:=by rw [cw];simp [hn]
    simp only [this,cond_false] at fU
    exact hQ n e1 cb a1 w1 h1 t1 fU
  ·intro e1 cb a1 w1 h1 t1 fU
   exact hJ e1 cb a1 w1 h1 t1 fU
 |cond x y z _ _=>
  intro Z e st a w K Q h hK hQ hJ
  simp only [zN] at hK
  split at hK
  ·rename_i l' hg
   obtain ⟨rfl,rfl⟩:=H7 hg
   cases hb:Nat.beq l' l with
   |false=>rw [hb] at hK;cases hK
   |true=>
    rw [hb] at hK
    simp only [cond_true] at hK
    have hb:=Nat.eq_of_beq_eq_true hb
    subst hb
    obtain ⟨hx,_⟩:=h.eval x
    split at hK
    ·rename_i v hv
     rw [hv] at hx
     refine wp_cond (qQ hx) ?_
     cases v with
     |true=>exact wp_goto (hJ e st a w h (.refl _ _ _) hK)
     |false=>exact wp_skip (hQ 0 e st a w h (.refl _ _ _) hK)
    ·cases hK
  ·exact nA hG hD _ h hK hQ
 |label l'=>
  intro Z e st a w K Q h hK hQ hJ
  exact wp_label (hQ 0 e st a w h (.refl _ _ _) hK)
 |_=>intro Z e st a w K Q h hK hQ hJ;simp only [zN] at hK;exact nA hG hD _ h hK hQ
theorem OJ (hG:Good P c) (hD:zv P c): ∀(code:Code) {Z:aX} {e:Env} {st:St} {a:Act} {w:World} {K:Nat→St→Option R} {Q:Exit→Act→World→Prop},bn c Z e st a w→xz c code st K=some r→
 (∀n e' bj a' w',bn c Z e' bj a' w'→Trans Z.In e.φ w e'.φ w'→K n bj=some r→Q (fL n) a' w')→code.wp P Q a w:=by
 intro code
 induction code with
 |seq x y _ Sx=>
  intro Z e st a w K Q h hK hQ
  simp only [xz] at hK
  have nxt: ∀n e1 cb a1 w1,bn c Z e1 cb a1 w1→Trans Z.In e.φ w e1.φ w1→(bif Nat.beq n 0 then xz c y cb K else K n cb)=some r→Exit.then (y.wp P Q) Q (fL n) a1 w1:=by
   intro n e1 cb a1 w1 h1 t1 fU
   by_cases hn:n=0
   ·subst hn
    exact Sx h1 fU (fun n e2 cr a2 w2 h2 t2 mZ=>hQ n e2 cr a2 w2 h2 (t1.trans t2) mZ)
   ·rw [oL hn]
    have:Nat.beq n 0=false:=by rw [cw];simp [hn]
    simp only [this,cond_false] at fU
    exact hQ n e1 cb a1 w1 h1 t1 fU
  split at hK
  ·rename_i q hq
   exact wp_seq (UA hG hD hq h hK nxt)
  ·exact wp_seq (nA hG hD _ h hK nxt)
 |scope b _=>
  intro Z e st a w K Q h hK hQ
  simp only [xz] at hK
  split at hK
  ·rename_i rest hf
   have hx: ∀(J:Act→World→Prop) n (a':Act) (w':World),Q (fL n) a' w'→Exit.jump 0 J Q (fL n) a' w':=by
    intro J n a' w' hq
    match n,hq with
    |0,hq=>exact hq
    |1,hq=>exact hq
    |n+2,hq=>exact hq
   refine wp_scope_jumps 0 (fun a' w'=> ∃e' bj,bn c Z e' bj a' w'∧Trans Z.In e.φ w e'.φ w'∧ft c rest R bj K=some r) (fun _ _=>0) hf ?_ ?_
   ·refine OI hG hD b h hK (fun n e' bj a' w' h' t' Sp=>hx _ n a' w' (hQ n e' bj a' w' h' t' Sp)) ?_
    intro e' bj a' w' h' t' Sp
    exact ⟨rfl,e',bj,h',t',Sp⟩
   ·rintro a1 w1 ⟨e1,cb,h1,t1,fU⟩
    refine nA hG hD rest h1 fU ?_
    intro n e' bj a' w' h' t' Sp
    exact hx _ n a' w' (hQ n e' bj a' w' h' (t1.trans t') Sp)
  ·cases hK
 |_=>intro Z e st a w K Q h hK hQ;simp only [xz] at hK;exact nA hG hD _ h hK hQ
end
theorem aC.F7 {P:Program} {c c':Ctx} {g:Nat→List MV→Option MV} {n:Nat} {fn:Func} {bo:List (List Kd)} (h:aC P c g) (hl:tP c c') (Mh:c'.g=g) (jy:fI P c.ti) (dJ:Dy P c.ti) (yL: ∀t k,c.fk t=some k→P.underlying t=some (.float k)) (ES:qV P c) (xV:P.follows .mixedOrders=true) (wA:mz P c)
 (hf:P.funcs[n]? =some fn) (hh:s9 c' n fn bo=true) (nW: ∀f,c.key f=f) {fresh:Option Nat} (xR:tQ c' n fn fresh=true):aC P c (bS n (Dn.F7 c' bo fresh fn) g):=by
 have hG:Good P c':=by
  refine ⟨by rw [hl.ti];exact jy,by rw [hl.ti];exact dJ,fun f ms r hr=> ?_,by rw [hl.fk];exact yL,fun t s hs=>ES t s ?_⟩
  ·rw [Mh,hl.key] at hr
   exact (h.all f ms r hr).jn hl
  ·rw [←hs];unfold nR Ctx.tv;rw [hl.mt,hl.ti]
 refine h.add (fun f ms r hk hr=> ?_)
 rw [nW] at hk
 subst hk
 simp only [s9,Bool.and_eq_true,Bool.not_eq_true'] at hh
 obtain ⟨⟨⟨h1,h2⟩,h3⟩,h4⟩:=hh
 have hD:=zL hG xV (wA.jn hl)
 exact (FG (fun b {r Z e st a w K Q} h hK hQ=>OJ hG hD b h hK hQ) hG hf h1 (Nat.eq_of_beq_eq_true h2) (Nat.le_of_ble_eq_true h3) (by rw [hl.key,nW];exact h4) (by rw [hl.key,nW];exact CC xR) hr).jn hl.symm
theorem aC.ZW {P:Program} {c c':Ctx} {g:Nat→List MV→Option MV} {n:Nat} {fn:Func} {bo:List (List Kd)} {F:List MV→Option MV} (h:aC P c g) (hl:tP c c') (Mh:c'.g=g) (jy:fI P c.ti) (dJ:Dy P c.ti) (yL: ∀t k,c.fk t=some k→P.underlying t=some (.float k)) (ES:qV P c) (xV:P.follows .mixedOrders=true) (wA:mz P c)
 (hf:P.funcs[n]? =some fn) (hh:s9 c' n fn bo=true) (nW: ∀f,c.key f=f) {fresh:Option Nat} (xR:tQ c' n fn fresh=true) (hF: ∀{ms r},F ms=some r→Dn.F7 c' bo fresh fn ms=some r):aC P c (bS n F g):=by
 have hb:=aC.F7 h hl Mh jy dJ yL ES xV wA hf hh nW xR
 refine h.add (fun f ms r hk hr=> ?_)
 refine hb.all f ms r ?_
 unfold bS
 rw [hk]
 simp [hF hr]
theorem OL {α ρ ρ':Type} {e:α→MV} {f:ρ'→ρ} {K:MV→Option (Sum Unit ρ)} {K':α→Option (Sum Unit ρ')} {d:Option ρ} {d':Option ρ'} {l:List MV} {M:List α} (hl:l=M.map e) (hd:Sm f d d') (h: ∀x,Sm (Sum.map id f) (K (e x)) (K' x)):
 Sm f (lk K d l) (lk K' d' M):=by
 subst hl
 have hg: ∀x,pM (K (e x))=pM (K' x):=by
  intro x
  rw [h x]
  cases K' x with
  |none=>rfl
  |some y=>cases y<;>rfl
 unfold Sm
 induction M with
 |nil=>exact hd
 |cons x M ih=>
  have hx:=h x
  unfold Sm at hx
  simp only [List.map_cons,lk,hx]
  cases hk:K' x with
  |none=>rfl
  |some y=>
   cases y with
   |inl u=>exact ih
   |inr r=>
    simp only [Option.map_some,Sum.map_inr,List.all_map]
    have:(M.all ((fun y=>pM (K y))∘e))=M.all fun y=>pM (K' y):=by
     congr 1
     funext y
     exact hg y
    rw [this]
    cases M.all fun y=>pM (K' y)<;>rfl
theorem UJ {A B:Type} {g:B→A} {m:MV} {K:List UInt8→Int→Option A} {K':List UInt8→Int→Option B} (h: ∀key n,Sm g (K key n) (K' key n)):Sm g (D8 m K) (D8 m K'):=by
 have hN: ∀{l:List MV} {X:Option A} {X':Option B},Sm g X X'→Sm g (gN l X) (gN l X'):=by intro l X X' h;cases l<;>first|exact h|rfl
 have hC: ∀{l:List MV} {X:MV→List MV→Option A} {X':MV→List MV→Option B},(∀a b,Sm g (X a b) (X' a b))→Sm g (gC l X) (gC l X'):=by intro l X X' h;cases l<;>first|exact h _ _|rfl
 unfold D8
 cases m<;>first|rfl|skip
 refine hC fun ka r=> ?_
 cases ka<;>first|rfl|skip
 refine hC fun k0 kr=>hN ?_
 cases k0<;>first|rfl|skip
 refine hC fun v0 vr=>hN ?_
 cases v0<;>first|rfl|skip
 rename_i k n
 simp only [gI]
 cases decide (k=IntKind.i64)<;>first|rfl|exact h _ _
theorem Rt {A B:Type} {g:B→A} {p q:Prop} [Decidable p] [Decidable q] {X:Option A} {X':Option B} (e:p↔q) (h1:Sm g X X'):Sm g (cE (decide p) X) (if q then X' else none):=by
 by_cases hp:p
 ·rw [if_pos (e.1 hp),decide_eq_true hp];exact h1
 ·rw [if_neg (fun h=>hp (e.2 h)),decide_eq_false hp];rfl
theorem UK {A B:Type} {g:B→A} {T:Option B} {x:List MV} {K:List MV→Option A} (h:Sm g (K x) T):Sm g (VU (.clip x) K) T:=h
@[reducible] def Yn {α : Type} (f : α → MV) (l : List α) : MV := .clip (l.map f)
end Dn
/-
  Reasoning about functions on typed values. Conditions: none.
-/
set_option linter.unusedVariables false
namespace Dn
open Go
section
variable {α R:Type}
theorem bO {l:List α} {k:Nat} (h:k<l.length) (K:α→Option R):ix l (k:Int) K=K l[k]:=by
 simp [ix,h]
theorem jO {l:List α} (h:0<l.length) (K:α→Option R):ix l 0 K=K l[0]:=by simp [ix,h]
@[simp] theorem J6 {A : Type} (x : Option A) : bd x (fun a => some a) = x := by cases x <;> rfl
end
def aO {A:Type} (x:Option A) (Q:A→Prop):Prop:= ∃a,x=some a∧Q a
section
variable {A B α σ ρ:Type}
theorem aO.mk {a:A} {Q:A→Prop} (h:Q a):aO (some a) Q:=⟨a,rfl,h⟩
theorem aO.of {x:Option A} {a:A} {Q:A→Prop} (e:x=some a) (h:Q a):aO x Q:=⟨a,e,h⟩
theorem aO.bd {x:Option A} {K:A→Option B} {P:A→Prop} {Q:B→Prop} (h:aO x P) (hk: ∀a,P a→aO (K a) Q):aO (bd x K) Q:=by
 obtain ⟨a,rfl,hp⟩:=h;exact hk a hp
theorem aO.ite {c:Prop} [Decidable c] {x y:Option A} {Q:A→Prop} (h1:c→aO x Q) (h2: ¬c→aO y Q):aO (if c then x else y) Q:=by
 split
 ·exact h1 ‹_›
 ·exact h2 ‹_›
theorem aO.imp {x:Option A} {P Q:A→Prop} (h:aO x P) (HM: ∀a,P a→Q a):aO x Q:=by
 obtain ⟨a,e,hp⟩:=h;exact ⟨a,e,HM a hp⟩
theorem aO.ix {l:List α} {k:Nat} {K:α→Option A} {Q:A→Prop} (h:k<l.length) (hk:aO (K l[k]) Q):aO (ix l (k:Int) K) Q:=by rw [bO h];exact hk
theorem aO.eq {x:Option A} {a:A} (h:aO x (· =a)):x=some a:=by obtain ⟨b,e,rfl⟩:=h;exact e
variable {body:σ→Option (Sum σ ρ)}
theorem aO.loop (I:σ→Prop) (μ:σ→Nat) {Q:ρ→Prop} {s:σ} (hs:I s) (h: ∀s,I s→aO (body s) fun x=>match x with| .inl s'=>I s'∧μ s'<μ s| .inr r=>Q r):aO (Loop body s) Q:=by
 refine Oy I μ Q (fun s hs=> ?_) hs
 obtain ⟨x,e,hx⟩:=h s hs
 cases x with
 |inl s'=>exact .inl ⟨s',e,hx⟩
 |inr r=>exact .inr ⟨r,e,hx⟩
theorem aO.count (S:Nat→σ) (n:Nat) {Q:ρ→Prop} (P:Nat→Prop) {s:σ} (e:s=S 0) (h0:P 0) (h: ∀k,k<n→P k→aO (body (S k)) fun x=>match x with| .inl s'=>s'=S (k+1)∧P (k+1)| .inr r=>Q r)
 (he:P n→aO (body (S n)) fun x=>match x with| .inl _=>False| .inr r=>Q r):aO (Loop body s) Q:=by
 subst e
 refine Oz S n Q P h0 (fun k hk hp=> ?_) (fun hp=> ?_)
 ·obtain ⟨x,e,hx⟩:=h k hk hp
  cases x with
  |inl s'=>obtain ⟨rfl,hx⟩:=hx;exact .inl ⟨e,hx⟩
  |inr r=>exact .inr ⟨r,e,hx⟩
 ·obtain ⟨x,e,hx⟩:=he hp
  cases x with
  |inl s'=>exact hx.elim
  |inr r=>exact ⟨r,e,hx⟩
end
theorem wrap64 {x:Int} (h1: -9223372036854775808≤x) (h2:x≤9223372036854775807):IntKind.wrap .i64 x=x:=Ro h1 h2
end Dn
/-
  Functions of the library, on typed values. Conditions: none.
-/
set_option linter.unusedVariables false
namespace Dn
open Go
def Es (x y:Int):Int:=if x<y then-1 else if y<x then 1 else 0
def eN {α:Type} (key:α→Int) (L:List α) (s:Int):Nat:=L.countP (fun e=>decide (key e<s))
def mN {α:Type} (key:α→Int) (L:List α) (s:Int):Bool:=L.any fun e=>decide (key e=s)
def o8 {α:Type} (key:α→Int) (L:List α):Prop:=L.Pairwise fun a b=>key a<key b
section
variable {α τ:Type} {key:α→Int}
theorem VK {L:List α} {s:Int} {p:Nat} (hp:p≤L.length) (h1: ∀k (hk:k<L.length),k<p→key L[k]<s) (h2: ∀k (hk:k<L.length),p≤k→s≤key L[k]):eN key L s=p:=by
 have h3:(L.take p).countP (fun e=>decide (key e<s))=(L.take p).length:=by
  rw [List.countP_eq_length]
  intro a ha
  obtain ⟨k,hk,rfl⟩:=List.mem_iff_getElem.1 ha
  have EP:k<p:=by rw [List.length_take] at hk;omega
  rw [List.getElem_take]
  exact decide_eq_true (h1 k (by omega) EP)
 have h4:(L.drop p).countP (fun e=>decide (key e<s))=0:=by
  rw [List.countP_eq_zero]
  intro a ha
  obtain ⟨k,hk,rfl⟩:=List.mem_iff_getElem.1 ha
  rw [List.length_drop] at hk
  rw [List.getElem_drop]
  have:=h2 (p+k) (by omega) (by omega)
  simp;omega
 have h5:eN key L s=(L.take p++L.drop p).countP (fun e=>decide (key e<s)):=by rw [List.take_append_drop];rfl
 rw [h5,List.countP_append,h3,h4,List.length_take]
 omega
theorem o8.lt {L:List α} (hs:o8 key L) {i j:Nat} (hj:j<L.length) (h:i<j):key (L[i]'(by omega))<key L[j]:=List.pairwise_iff_getElem.1 hs i j (by omega) hj h
theorem o8.le {L:List α} (hs:o8 key L) {i j:Nat} (hj:j<L.length) (h:i≤j):key (L[i]'(by omega))≤key L[j]:=by
 rcases Nat.lt_or_eq_of_le h with h|h
 ·exact Int.le_of_lt (hs.lt hj h)
 ·subst h;exact Int.le_refl _
theorem wR (L:List α) (s:Int):eN key L s≤L.length:=List.countP_le_length
theorem o8.lb {L:List α} (hs:o8 key L) (s:Int):(∀k (hk:k<L.length),k<eN key L s→key L[k]<s)∧(∀k (hk:k<L.length),eN key L s≤k→s≤key L[k]):=by
 have: ∃p,p≤L.length∧(∀k (hk:k<L.length),k<p→key L[k]<s)∧(∀k (hk:k<L.length),p≤k→s≤key L[k]):=by
  induction L with
  |nil=>exact ⟨0,Nat.le_refl _,fun k hk=>by simp at hk,fun k hk=>by simp at hk⟩
  |cons a l ih=>
   have rT:=List.pairwise_cons.1 hs
   by_cases ha:key a<s
   ·obtain ⟨p,h1,h2,h3⟩:=ih rT.2
    refine ⟨p+1,by simp;omega,fun k hk hkp=> ?_,fun k hk hkp=> ?_⟩
    ·cases k with
     |zero=>exact ha
     |succ k=>exact h2 k (by simpa using hk) (by omega)
    ·cases k with
     |zero=>omega
     |succ k=>exact h3 k (by simpa using hk) (by omega)
   ·refine ⟨0,Nat.zero_le _,fun k hk hkp=>by omega,fun k hk _=> ?_⟩
    cases k with
    |zero=>simp;omega
    |succ k=>
     have:=rT.1 (l[k]'(by simpa using hk)) (List.getElem_mem _)
     simp only [List.getElem_cons_succ];omega
 obtain ⟨p,h1,h2,h3⟩:=this
 rw [VK h1 h2 h3]
 exact ⟨h2,h3⟩
theorem o8.has {L:List α} (hs:o8 key L) (s:Int):mN key L s=true↔ ∃h:eN key L s<L.length,key L[eN key L s]=s:=by
 obtain ⟨h1,h2⟩:=hs.lb s
 unfold mN
 rw [List.any_eq_true]
 constructor
 ·rintro ⟨x,hx,he⟩
  obtain ⟨k,hk,rfl⟩:=List.mem_iff_getElem.1 hx
  have he:key L[k]=s:=by simpa using he
  have Hy:eN key L s≤k:=by
   refine Nat.le_of_not_lt fun cA=> ?_
   have:=h1 k hk cA;omega
  have hl:eN key L s<L.length:=by omega
  refine ⟨hl,?_⟩
  have:=h2 _ hl (Nat.le_refl _)
  have:=hs.le hk Hy
  omega
 ·rintro ⟨h,he⟩
  exact ⟨_,List.getElem_mem h,decide_eq_true he⟩
theorem AG {L:List α} {s:Int}:mN key L s=true↔ ∃x∈L,key x=s:=by simp [mN]
noncomputable def bsL (x:List α) (target:τ) (cmp:α→τ→Option Int) (st:Int×Int):Option ((Int×Int)⊕Int):=
 if st.1<st.2 then
 if (0:Int)≤1 then
 ix x (IntKind.wrap .i64 (Int.fdiv (IntKind.wrap .u64 (IntKind.wrap .i64 (st.1+st.2))) (2^min (Int.toNat 1) (IntKind.bits .u64)))) fun y=>
 bd (cmp y target) fun rA=>
 bd (
  if rA<0 then
  some (IntKind.wrap .i64 ((IntKind.wrap .i64 (Int.fdiv (IntKind.wrap .u64 (IntKind.wrap .i64 (st.1+st.2))) (2^min (Int.toNat 1) (IntKind.bits .u64))))+1),st.2)
  else
  some (st.1,IntKind.wrap .i64 (Int.fdiv (IntKind.wrap .u64 (IntKind.wrap .i64 (st.1+st.2))) (2^min (Int.toNat 1) (IntKind.bits .u64)))):Option (Int×Int)) fun w1=>
 some (.inl (w1.1,w1.2))
 else none
 else
 some (.inr st.1)
noncomputable def bsearch (x:List α) (target:τ) (cmp:α→τ→Option Int):Option (Int×Bool):=
 bd (Loop (bsL x target cmp) (0,(x.length:Int))) fun w=>
 bd (
  if w<(x.length:Int) then
  ix x w fun y1=>
  bd (cmp y1 target) fun bI=>
  some (w,decide (bI=0))
  else
  some (w,false):Option (Int×Bool)) fun w2=>
 some (w2.1,w2.2)
theorem Iw {L:List α} {s:Int} {cmp:α→Int→Option Int} (hs:o8 key L) (hl:L.length<2^60) (hc: ∀a,cmp a s=some (Es (key a) s)):bsearch L s cmp=some ((eN key L s:Int),mN key L s):=by
 obtain ⟨ov,oe⟩:=hs.lb s
 have hle:=wR (key:=key) L s
 have rz:Loop (bsL L s cmp) (0,(L.length:Int))=some (eN key L s:Int):=by
  refine aO.eq (aO.loop (fun st=> ∃i j:Nat,st=((i:Int),(j:Int))∧i≤eN key L s∧eN key L s≤j∧j≤L.length) (fun st=>(st.2-st.1).toNat) ⟨0,L.length,rfl,Nat.zero_le _,hle,Nat.le_refl _⟩ ?_)
  rintro st ⟨i,j,rfl,hi,hj,Bb⟩
  unfold bsL
  by_cases cA:i<j
  ·have hm:(i+j)/2<L.length:=by omega
   simp only [show ((i:Int)<(j:Int)) by omega,if_true,show ((0:Int)≤1) by decide,UF (by omega:i+j<2^62),bO hm,hc,aq]
   by_cases hlb:(i+j)/2<eN key L s
   ·have hk:=ov _ hm hlb
    have:Es (key L[(i+j)/2]) s= -1:=by simp [Es,hk]
    simp only [this,show ((-1:Int)<0) by decide,if_true,aq]
    rw [wrap64 (by omega) (by omega)]
    exact .mk ⟨⟨(i+j)/2+1,j,by simp,by omega,hj,Bb⟩,by omega⟩
   ·have hk:=oe _ hm (by omega)
    have: ¬Es (key L[(i+j)/2]) s<0:=by unfold Es;rw [if_neg (by omega)];split<;>omega
    simp only [this,if_false,aq]
    exact .mk ⟨⟨i,(i+j)/2,rfl,hi,by omega,by omega⟩,by omega⟩
  ·simp only [show¬((i:Int)<(j:Int)) by omega,if_false]
   exact .mk (by show (i:Int)=(eN key L s:Int);omega)
 unfold bsearch
 rw [rz]
 simp only [aq]
 by_cases cA:eN key L s<L.length
 ·simp only [show ((eN key L s:Int)<(L.length:Int)) by omega,if_true,bO cA,hc,aq]
  have h3:=oe _ cA (Nat.le_refl _)
  have:decide (Es (key L[eN key L s]) s=0)=mN key L s:=by
   unfold Es
   rw [if_neg (by omega)]
   by_cases he:key L[eN key L s]=s
   ·rw [if_neg (by omega),decide_eq_true rfl,(hs.has s).2 ⟨cA,he⟩]
   ·rw [if_pos (by omega),decide_eq_false (by decide)]
    symm;rw [Bool.eq_false_iff]
    intro hh
    obtain ⟨_,hh⟩:=(hs.has s).1 hh
    exact he hh
  rw [this]
 ·simp only [show¬((eN key L s:Int)<(L.length:Int)) by omega,if_false,aq]
  have:mN key L s=false:=by
   rw [Bool.eq_false_iff]
   intro hh
   obtain ⟨hh,_⟩:=(hs.has s).1 hh
   exact cA hh
  rw [this]
def Y6 (key:α→Int) (L:List α) (a:α):List α:=L.take (eN key L (key a))++[a]++L.drop (eN key L (key a))
theorem Ix {L:List α} {a:α} {Wm:Nat} (hb:(L.length+1) *Wm≤2^46):u6 Wm L (eN key L (key a):Int) [a]=some (Y6 key L a):=by
 unfold u6
 rw [if_pos]
 ·rfl
 ·exact ⟨by omega,by simpa using wR L _,by simp,by simpa using hb⟩
theorem C8 {L:List α} {Wm:Nat} (h:L.length *Wm≤2^46):Ec Wm L=some L:=if_pos h
end
section
variable {α ρ:Type}
theorem rB {body:Int→Option (Int⊕(Unit⊕ρ))} (n:Nat) (p:Nat→Prop) (c:ρ) (h: ∀k,k<n→(∀j,j<k→p j)→(p k→body (k:Int)=some (.inl ((k+1:Nat):Int)))∧(¬p k→body (k:Int)=some (.inr (.inr c))))
 (he:body (n:Int)=some (.inr (.inl ()))):aO (Loop body 0) fun r=>(r= .inl ()∧ ∀k,k<n→p k)∨(r= .inr c∧ ∃k,k<n∧ ¬p k):=by
 refine aO.count (fun k=>(k:Int)) n (fun k=> ∀j,j<k→p j) rfl (fun j hj=>by omega) (fun k hk hp=> ?_) (fun hp=> ?_)
 ·by_cases P4:p k
  ·refine .of ((h k hk hp).1 P4) ⟨rfl,fun j hj=> ?_⟩
   by_cases QS:j=k
   ·subst QS;exact P4
   ·exact hp j (by omega)
  ·exact .of ((h k hk hp).2 P4) (.inr ⟨rfl,k,hk,P4⟩)
 ·exact .of he (.inl ⟨rfl,hp⟩)
end
end Dn
/-
  Maps as lists of entries: what is there behind a store. Conditions: none.
-/
set_option linter.unusedVariables false
namespace Dn
open Go
theorem qf (es:List MV) (ks:List MV):bE es ks≤es.length:=by
 rw [cM];have:=uJ (es.map eF) ks;simpa using this
theorem vG {dZ:List (List MV)} {ks Bl:List MV} (h:cH Bl ks=false):da (dZ++[Bl]) ks=if da dZ ks<dZ.length then da dZ ks else dZ.length+1:=by
 induction dZ with
 |nil=>simp [da,h]
 |cons q r ih=>
  simp only [List.cons_append,da,List.length_cons]
  rcases Bool.eq_false_or_eq_true (cH q ks) with hm|hm
  ·simp [hm]
  ·have:=uJ r ks
   simp only [hm,cond_false]
   by_cases hl:da r ks<r.length
   ·simp [hl,ih]
   ·simp [hl,ih]
theorem wS {dZ:List (List MV)} {ks:List MV} (hr:cH ks ks=true) (h:da dZ ks=dZ.length):da (dZ++[ks]) ks=dZ.length:=by
 induction dZ with
 |nil=>simp [da,hr]
 |cons q r ih=>
  simp only [List.cons_append,da,List.length_cons] at h⊢
  cases hm:cH q ks with
  |true=>simp [hm] at h
  |false=>
   simp only [hm,cond_false] at h⊢
   rw [ih (by omega)]
theorem Gs {dZ:List (List MV)} {ks:List MV} (h:da dZ ks<dZ.length):dZ[da dZ ks]? =some ks:=by
 obtain ⟨q,hq⟩: ∃q,dZ[da dZ ks]? =some q:=⟨_,List.getElem?_eq_getElem h⟩
 rw [hq,zb hq]
theorem AH (ks:List MV) (v:MV):eF (.dy [.agg ks,v])=ks:=rfl
def sM (es ks:List MV) (z v:MV):List MV:=lC (gz es ks z) (bE es ks) v
theorem wT {es ks:List MV} {z v:MV}:(sM es ks z v).map eF=if bE es ks<es.length then es.map eF else es.map eF++[ks]:=by
 have hle:=qf es ks
 unfold sM gz
 rw [cw]
 by_cases h:bE es ks=es.length
 ·simp only [h,decide_true,cond_true]
  unfold lC
  simp [AH]
 ·have cA:bE es ks<es.length:=by omega
  simp only [h,decide_false,cond_false,cA,if_true]
  unfold lC
  rw [List.getElem?_eq_getElem cA]
  simp only
  apply List.ext_getElem?
  intro i
  rw [List.getElem?_map,List.getElem?_map,List.getElem?_set]
  by_cases hi:bE es ks=i
  ·subst hi;simp [cA,AH]
  ·simp [hi]
theorem RO {es ks:List MV} {z v:MV}:(sM es ks z v)[bE es ks]? =some (.dy [.agg ks,v]):=by
 have hle:=qf es ks
 unfold sM gz
 rw [cw]
 by_cases h:bE es ks=es.length
 ·simp only [h,decide_true,cond_true]
  unfold lC
  simp [AH]
 ·have cA:bE es ks<es.length:=by omega
  simp only [h,decide_false,cond_false]
  unfold lC
  rw [List.getElem?_eq_getElem cA]
  have hk:eF es[bE es ks]=ks:=by
   have h1:(es.map eF)[da (es.map eF) ks]? =some (eF es[bE es ks]):=by
    rw [←cM,List.getElem?_map,List.getElem?_eq_getElem cA];rfl
   exact zb h1
  simp [cA,hk]
theorem Iy {es ks:List MV} {z v:MV} {i:Nat} (hi:i<es.length) (cm:i≠bE es ks):(sM es ks z v)[i]? =es[i]? :=by
 have hle:=qf es ks
 unfold sM gz
 rw [cw]
 by_cases h:bE es ks=es.length
 ·simp only [h,decide_true,cond_true]
  unfold lC
  simp only [List.getElem?_append_right (Nat.le_refl _),Nat.sub_self,List.getElem?_cons_zero]
  rw [List.getElem?_set_ne (by omega),List.getElem?_append_left hi]
 ·have cA:bE es ks<es.length:=by omega
  simp only [h,decide_false,cond_false]
  unfold lC
  rw [List.getElem?_eq_getElem cA]
  simp only
  rw [List.getElem?_set_ne (fun e=>cm e.symm)]
theorem Ps {es ks:List MV} {z v:MV}:(sM es ks z v).length=if bE es ks<es.length then es.length else es.length+1:=by
 have h:((sM es ks z v).map eF).length=_:=congrArg List.length wT
 rw [List.length_map] at h
 rw [h];split<;>simp
def Iz (es ks:List MV):Option MV:=(es[bE es ks]?).map P7
theorem Gt (es ks:List MV):hU es ks=match Iz es ks with|some v=>Zh v|none=>0:=by
 unfold hU Iz;cases es[bE es ks]? <;>rfl
theorem BU {es ks:List MV} {z v:MV} (hr:cH ks ks=true):Iz (sM es ks z v) ks=some v:=by
 have hle:=qf es ks
 have:bE (sM es ks z v) ks=bE es ks:=by
  rw [cM,wT,cM]
  split
  ·rfl
  ·rename_i h
   have h1:=uJ (es.map eF) ks
   simp only [List.length_map] at h1⊢
   have h2:da (es.map eF) ks=(es.map eF).length:=by simp;omega
   rw [wS hr h2,h2]
 unfold Iz
 rw [this,RO];rfl
theorem AJ {es ks Bl:List MV} {z v:MV} (cm:cH ks Bl=false):Iz (sM es ks z v) Bl=Iz es Bl:=by
 unfold Iz
 have ajv:=qf es Bl
 have hle:=qf es ks
 have QT:bE (sM es ks z v) Bl=if bE es ks<es.length then bE es Bl else if bE es Bl<es.length then bE es Bl else es.length+1:=by
  rw [cM,wT]
  split
  ·rw [cM]
  ·rw [vG cm,←cM];simp
 by_cases cA:bE es Bl<es.length
 ·have hm:bE (sM es ks z v) Bl=bE es Bl:=by rw [QT];simp [cA]
  have adN:bE es Bl≠bE es ks:=by
   intro he
   have h1:=Gs (dZ:=es.map eF) (ks:=Bl) (by rw [←cM];simpa using cA)
   have h2:=Gs (dZ:=es.map eF) (ks:=ks) (by rw [←cM,←he];simpa using cA)
   rw [←cM,he,cM,h2] at h1
   cases h1
   have hq:cH ks ks=true:=by
    have:=cA
    rw [he] at this
    have h3: ∀(l:List (List MV)),da l ks<l.length→ ∃q,cH q ks=true:=by
     intro l
     induction l with
     |nil=>intro h;simp [da] at h
     |cons q r ih=>
      intro h
      simp only [da] at h
      cases hm:cH q ks with
      |true=>exact ⟨q,hm⟩
      |false=>simp only [hm,cond_false,List.length_cons] at h;exact ih (by omega)
    obtain ⟨q,hq⟩:=h3 (es.map eF) (by rw [←cM];simpa using this)
    have:=Fs hq
    subst this
    exact hq
   rw [hq] at cm;cases cm
  rw [hm,Iy cA adN]
 ·have xi:es[bE es Bl]? =none:=by rw [List.getElem?_eq_none_iff];omega
  rw [xi]
  have hlen:=Ps (es:=es) (ks:=ks) (z:=z) (v:=v)
  have:(sM es ks z v)[bE (sM es ks z v) Bl]? =none:=by
   rw [List.getElem?_eq_none_iff,QT,hlen]
   repeat' split
   all_goals omega
  rw [this]
end Dn
/-
  Runs with a bound on their rounds. Conditions: none.
-/
set_option linter.unusedVariables false
namespace Dn
open Go
def Da {σ R:Type} (n:Nat) (body:σ→Option (Sum σ R)) (s:σ):Option R:=iter body n s
def Le {A:Type} (x y:Option A):Prop:= ∀a,x=some a→y=some a
section
variable {A B σ ρ α:Type}
theorem Le.rfl' (x:Option A):Le x x:=fun _ h=>h
theorem Le.bd {x x':Option A} {K K':A→Option B} (h:Le x x') (hk: ∀a,Le (K a) (K' a)):Le (bd x K) (bd x' K'):=by
 intro b hb
 cases hx:x with
 |none=>rw [hx] at hb;cases hb
 |some a=>rw [hx] at hb;rw [h a hx];exact hk a b hb
theorem Le.ite {c:Prop} [Decidable c] {x y x' y':Option A} (h1:Le x x') (h2:Le y y'):Le (if c then x else y) (if c then x' else y'):=by
 split
 ·exact h1
 ·exact h2
theorem Le.ix {l:List α} {i:Int} {K K':α→Option A} (h: ∀a,Le (K a) (K' a)):Le (ix l i K) (ix l i K'):=by
 unfold Dn.ix
 split
 ·exact h _
 ·exact Le.rfl' _
theorem Le.iter {K K':σ→Option (Sum σ ρ)} (h: ∀s,Le (K s) (K' s)) (n:Nat) (s:σ):Le (iter K n s) (iter K' n s):=by
 induction n generalizing s with
 |zero=>exact Le.rfl' _
 |succ n ih=>
  intro r hr
  simp only [Dn.iter] at hr⊢
  cases hk:K s with
  |none=>rw [hk] at hr;cases hr
  |some x=>
   rw [hk] at hr
   rw [h s x hk]
   cases x with
   |inl s'=>exact ih s' r hr
   |inr r'=>exact hr
theorem Le.loop {n:Nat} {K K':σ→Option (Sum σ ρ)} {s:σ} (h: ∀s,Le (K s) (K' s)):Le (Da n K s) (Loop K' s):=fun r hr=>ea (Le.iter h n s r hr)
theorem Le.sum {P Q:Type} {x:P⊕Q} {f f':P→Option A} {g g':Q→Option A} (h1: ∀p,Le (f p) (f' p)) (h2: ∀q,Le (g q) (g' q)):Le (match x with| .inl p=>f p| .inr q=>g q) (match x with| .inl p=>f' p| .inr q=>g' q):=by
 cases x
 ·exact h1 _
 ·exact h2 _
end
theorem Le.jo {α:Type} {p q:α→Option Bool} (h: ∀x,Le (p x) (q x)): ∀L:List α,Le (OG p L) (OG q L)
 |[]=>Le.rfl' _
 |x::xs=>Le.bd (h x) fun b=>Le.bd (Le.jo h xs) fun _=>Le.rfl' _
theorem Le.jq {α σ:Type} {p q:α→σ→Option (Bool×σ)} (h: ∀x s,Le (p x s) (q x s)): ∀(s:σ) (L:List α),Le (OH p s L) (OH q s L)
 |s,[]=>Le.rfl' _
 |s,x::xs=>Le.bd (h x s) fun b=>Le.bd (Le.jq h b.2 xs) fun _=>Le.rfl' _
end Dn
