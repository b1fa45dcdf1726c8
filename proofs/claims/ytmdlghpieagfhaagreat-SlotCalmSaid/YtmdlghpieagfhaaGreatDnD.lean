import Derived.Test.YtmdlghpieagfhaaGreatDnC
import Derived.Test.YtmdlghpieagfhaaGreatDnB
import Derived.Maps.RangeRun
import Derived.ScopeJumps
/- How code runs. Conditions: none. -/
set_option linter.unusedSimpArgs false
set_option linter.unusedVariables false
open List renaming getElem?_eq_getElem→cV,mem_iff_getElem→aaP,range→aaU,getElem?_map→abE,getElem?_eq_none→abF,drop_of_length_le→abJ,ext_getElem?→acv,length_map→acV,getElem?_eq_none_iff→ac0,length_cons→ac2,getElem?_set_ne→ac7,getElem?_range→ac9,all_eq_true→adg,length_take→adl,getElem_mem→adr,cons_append→ads,mem_cons→adW,map_cons→ad9
open Go.ChangeMaps renaming setBlock→sh
open Option.some renaming injEq→AI
open Go.IntKind renaming wrap→AT,bits→acE,wrap_i64→ac1
open Nat renaming eq_of_beq_eq_true→BY,beq→IT,le_refl→No,le_of_ble_eq_true→aaK,ble_eq_true_of_le→acT,ble→acX,zero_add→ade,zero_le→aeb
open Go.Value renaming pointer→OF,cells→abB,oneCell'→acY,slice→aea,bool→aed
open Array renaming getElem?_setIfInBounds_ne→aau,getElem?_toList→aaJ,length_toList→abG,getElem?_append→ac5,replicate→adx
open Go.Exit renaming inBlock→abz
open Bool renaming or_eq_false_iff→abC,eq_false_iff→acN,and_eq_true→acU,false_eq_true→ada,not_eq_false'→adb,not_eq_true'→adf
open Go.Instr renaming loadAt→acW
open Go.Result renaming andThen→acZ,ok→aee
open List.cons renaming injEq→ac3
open Classical renaming choose_spec→ac4
open Go.Code renaming rounds→ac6
open Int renaming toNat→ac8,fdiv→adP
open Go.Oper renaming upon_value→adM
open Option renaming map_some→adN
open Go.World renaming frozen?→adY
open Go.Region renaming wanted→ad1
open Go.Next renaming value→aec
namespace Dn
open Go
theorem cT.agw {c:Ctx} {Z Z':Nat->Prop} {φ φ':Ph} {W W':World}{v:Value}{ty:Nat}{xs:List MV}(h:cT c (bI.plain Z) (oO c.key φ) W v ⟨ty,false,xs⟩)(hz: ∀b,v.ownBlock=some b->Z' b)(hp:lS φ φ')(hf: ∀b o,v.ownBlock=some b->φ' b o=φ b o)(hh: ∀b,v.ownBlock=some b->b<W.heap.size->W'.heap[b]? =W.heap[b]?): cT c (bI.plain Z') (oO c.key φ') W' v ⟨ty,false,xs⟩:=by
 obtain ⟨I,cells,q1,q2,q3,q4,q5⟩:=h.row;refine ⟨I,cells,q1,q2,⟨q3.1,?_⟩,q4.mono hp,λb hb=>⟨hz b hb,λoff u hu=>(q5 b hb).2.1 off u ?_,λhc=>hc.elim⟩⟩
 ·rcases q3.2 with h6|⟨g,cap,fI,r1,r2,r3,r4⟩
  ·exact .inl h6
  ·exact .inr ⟨g,cap,fI,r1,r2,(hh g (by rw [r1];rfl) (aZ r3)).trans r3,r4⟩
 ·have hu:φ' b off=some u:=hu;rw [hf b off hb] at hu;exact hu
section
variable {P:Program}{c:Ctx}{g:Nat->List MV->Option MV}{n:CN}{fn:Func}{r:Nat->Nat}{o:Nat->Oper} {φ0 φ1:Ph} {w0 W W':World}{bc br bd bv:Nat} {s s':CS} {v v' l:Int}{a:Act} {σ:Nat->Value}{Q:Exit->Act->World->Prop}
def aeB (c:Ctx)(n:CN) (φ0:Ph)(w0:World)(s:CS)(x:Value)(W:World):Prop:= ∃φ',Trans (λb=>w0.heap.size<=b) φ0 w0 φ' W/\qy φ' W/\fZ c.key φ' x (.agg s.ls)
theorem aaZ (H:nO P c g n fn r o)(hI:BF c n φ0 w0 φ1 bc bv br s v W)(aN:Tm a 52 σ)(hF:Fv σ bc br bd bv){id d:Nat}{oA oB:Oper}(hA:az oA d (.load n.tS (.tmp 1)))(hB:ul oB (.store n.tS (.tmp 2) (.tmp d)))(hd:d<52)(hd2:2<d)(hQ: ∀a W,bodyPost P fn (λe W=> ∃x,e= .returned x/\aeB c n φ0 w0 s x W) .ret a W->Q .ret a W): (Code.seq (.region id #[oA,oB] false) .ret).wp P Q a W:=by
 obtain ⟨Z,φ,h⟩:=hI;obtain ⟨u,hu⟩:=h.cell.six;obtain ⟨φt,k1,k2,k3,k4,k5⟩:=hu.still h.kP;obtain ⟨T,hh⟩:=hu.heap;obtain ⟨IS,s1,s2,s3,s4⟩:=H.tyS;obtain ⟨nV,hc⟩:=bG s1;obtain ⟨arr,T2,xS,CU⟩:=h.hr;have hrS:W.rangeAt bc 0 (u.vs s):=wOf hh (by simp);have hlen:(u.vs s).length=IS.size:=by rw [s4];rfl
 refine wp_seq (wp_region ?_);rw [show aaU (#[oA,oB]:Array Oper).size=[0,1] from rfl];refine aN.step (v:= .agg (u.vs s).toArray) rfl hA hd (kH hA (by show (acW n.tS (σ 1)).run P W=_;rw [hF.h1];exact oP H.hT s1 s2 hlen hrS)) (λa aN=> ?_);have h2:Aq σ d (.agg (u.vs s).toArray) 2= .pointer (some ⟨br,0,none⟩):=by
  have:IT 2 d=false:=by
   cases hq:IT 2 d with
   |false=>rfl
   |true=>have:=BY hq;omega
  show (bif IT 2 d then _ else σ 2)=_;rw [this];exact hF.h2
 have hdd:Aq σ d (.agg (u.vs s).toArray) d= .agg (u.vs s).toArray:=by show (bif IT d d then _ else σ d)=_;rw [Nat.beq_refl];rfl
 have hsc:(Value.agg (u.vs s).toArray).cells.toList=u.vs s:=by simp [abB]
 refine aN.Jg rfl hB (yh (v:= .agg (u.vs s).toArray) (g:=br) (off:=0) hB (H.hT _ _ nV) hc h2 hdd (by rw [hsc];exact hlen) (by rw [hsc];exact k4.cells) xS (by rw [s4,CU];exact No _)) ?_;rw [hsc];obtain ⟨W2,Lb⟩: ∃W2,W2=W.setRow br (arr.toList.take 0++u.vs s++arr.toList.drop (0+IS.size)).toArray:=⟨_,rfl⟩
 rw [<-Lb];have qx:W2.heap[br]? =some (.cells (u.vs s).toArray T2 (0,0)):=by
  rw [Lb,qQ _ xS];congr 3;have:arr.toList.drop (0+IS.size)=[]:=by rw [ade,s4,abJ];rw [abG,CU];exact No _
  rw [this];simp
 have Fi: ∀o,φt br o=none:=λo=>by rw [k3 br o h.zr];exact h.fr o
 have zt: ∀b,b≠br->W2.heap[b]? =W.heap[b]? :=λb hb=>by rw [Lb];exact setRow_other _ _ _ _ hb
 refine wp_ret (hQ _ _ ?_);refine ⟨aN.defers,.agg (u.vs s).toArray,?_,_,rfl,φt,⟨h.tr.ph.trans k1,λb hb hl=> ?_,λb o hb=> ?_,by rw [Lb,setRow_size];exact h.tr.size,h.tr.rest.trans (by rw [Lb];exact .setRow _ _ _)⟩,?_,Av k4⟩
 ·have amj:(loadVar n.tS ⟨br,0,none⟩).run P W2= .ok (.agg (u.vs s).toArray) W2:=by have:=oP (P:=P) (w:=W2) (g:=br) (off:=0) H.hT s1 s2 hlen (wOf qx (by simp));simpa [acW,Instr.sureAddr] using this
  have NW:a.tmps.getD 2 undef= .pointer (some ⟨br,0,none⟩):=(aN.get 2).trans h2;have aqS:a.tmps[2]?.getD undef= .pointer (some ⟨br,0,none⟩):=by simpa using NW
  simp [results,H.res,aqS,amj,asAddr]
 ·rw [zt b (λe=>hb (by rw [e];exact h.nr))];exact h.tr.heap b hb hl
 ·rw [k3 b o (λhz=>hb (h.sub b hz))];exact h.tr.free b o hb
 ·intro b o x hx;refine tH (k2 b o x hx) λhl=>zt b λe=> ?_;rw [e,Fi] at hx;cases hx
theorem aeC (H:nO P c g n fn r o)(rR:0<n.sz)(hI:BF c n φ0 w0 φ1 bc bv br s 0 W)(VC:φ1 bd 0=some (.pointer (some ⟨bc,0,none⟩)))(aN:Tm a 52 σ)(hF:Fv σ bc br bd bv){bs:List Bool}(hb:B5 s.bl=some bs)(h:(Dn.bd (iO (Ji g n.k s) bs 0 0) λv=>Dn.bd (Loop (xe g n.k s) v) λv=>if 100000<v then some s else Dn.bd (iO (Jj g n.k v) bs 0 s) λs=>Loop (Jk g n.k v) ((0:Int),s))=some s'): (Code.seq (.region (r 4) #[o 13,o 14,o 15] false) (.seq (.block 0 (.loop (Jm r o))) (.seq (.seq (.region (r 7) #[o 26,o 27] false) (.cond (.tmp 25) (.seq (.region (r 8) #[o 28,o 29] false) .ret) .skip)) (.seq (.region (r 9) #[o 30,o 31,o 32] false) (.seq (.seq (.region (r 10) #[o 33] false) (.block 2 (.loop (QU r o)))) (.seq (.region (r 16) #[o 58,o 59] false) .ret)))))).wp P (bodyPost P fn λe W=> ∃x,e= .returned x/\aeB c n φ0 w0 s' x W) a W:=by
 obtain ⟨v1,Ss,h⟩:=nj h;obtain ⟨v2,Gg,h⟩:=nj h;obtain ⟨IP,p1,p2,p3⟩:=H.tyP;obtain ⟨Ii,i1,i2,i3⟩:=H.tyi;have hpd: ∀{s v W},BF c n φ0 w0 φ1 bc bv br s v W->W.cell? ⟨bd,0,none⟩=some (.pointer (some ⟨bc,0,none⟩)):=λ⟨Z3,φ3,h3⟩=>h3.kP _ _ _ (h3.base _ _ _ VC);refine wp_seq (wp_region ?_);rw [show aaU (#[o 13,o 14,o 15]:Array Oper).size=[0,1,2] from rfl];refine aN.step (v:= .pointer (some ⟨bc,0,none⟩)) rfl H.ops.TJ (by decide) (kH H.ops.TJ (by show (acW n.tP (σ 3)).run P W=_;rw [hF.h3];exact eY H.hT p1 p2 p3 (hpd hI))) (λa aN=> ?_);refine aN.step (v:= .func (.func n.f1) #[] #[.pointer (some ⟨bv,0,none⟩),.pointer (some ⟨bc,0,none⟩)]) rfl H.ops.TM (by decide) ((TQ H.ops.TM _).trans (by show aee (aec (.func (.func n.f1) #[] #[σ 4,σ 1])) W=_;rw [hF.h4,hF.h1])) (λa aN=> ?_);refine aN.call rfl H.ops.TN (by decide) (BD H.ops.TN rfl rfl rfl _) (Xq H hI hb Ss) ?_;rintro x1 W1 a1 PE aN;refine wp_seq (Xp H Gg PE aN ⟨hF.h1,hF.h2,hF.h3,hF.h4⟩ ?_);intro a2 W2 σ2 Ac QS Ft;refine wp_seq (wp_seq (wp_region ?_));rw [show aaU (#[o 26,o 27]:Array Oper).size=[0,1] from rfl];have hiv:W2.cell? ⟨bv,0,none⟩=some (.int .i64 v2):=by obtain ⟨Z3,φ3,h3⟩:=Ac;exact h3.hv.cell
 refine QS.step (v:= .int .i64 v2) rfl H.ops.h26 (by decide) (kH H.ops.h26 (by show (acW n.ti (σ2 4)).run P W2=_;rw [Ft.h4];exact eY H.hT i1 i2 i3 hiv)) (λa aN=> ?_);refine aN.step (v:= .bool (decide ((100000:Int)<v2))) rfl H.ops.h27 (by decide) (Jd H.ops.h27 rfl rfl _) (λa3 QT=> ?_);have hF3:Fv _ bc br bd bv:=⟨Ft.h1,Ft.h2,Ft.h3,Ft.h4⟩
 by_cases aeD:100000<v2
 ·rw [if_pos aeD] at h;simp only [AI] at h;subst h;refine QT.cond (b:=true) (by show aed (decide ((100000:Int)<v2))=_;rw [decide_eq_true aeD]) ?_;simp only [if_true];exact aaZ H Ac QT ⟨Ft.h1,Ft.h2,Ft.h3,Ft.h4⟩ H.ops.h28 H.ops.h29 (by decide) (by decide) λa W hx=>hx
 ·rw [if_neg aeD] at h;obtain ⟨s1,Cg,h⟩:=nj h;refine QT.cond (b:=false) (by show aed (decide ((100000:Int)<v2))=_;rw [decide_eq_false aeD]) ?_;simp only [ada,if_false];refine wp_skip ?_;refine wp_seq (wp_region ?_);rw [show aaU (#[o 30,o 31,o 32]:Array Oper).size=[0,1,2] from rfl];refine QT.step (v:= .pointer (some ⟨bc,0,none⟩)) rfl H.ops.h30 (by decide) (kH H.ops.h30 (by show (acW n.tP (σ2 3)).run P W2=_;rw [Ft.h3];exact eY H.hT p1 p2 p3 (hpd Ac))) (λa aN=> ?_);refine aN.step (v:= .func (.func n.f2) #[] #[.pointer (some ⟨bd,0,none⟩),.pointer (some ⟨bv,0,none⟩)]) rfl H.ops.h31 (by decide) ((TQ H.ops.h31 _).trans (by show aee (aec (.func (.func n.f2) #[] #[σ2 3,σ2 4])) W2=_;rw [Ft.h3,Ft.h4])) (λa aN=> ?_);refine aN.call rfl H.ops.h32 (by decide) (BD H.ops.h32 rfl rfl rfl _) (TS H Ac VC hb Cg) ?_;rintro x4 W4 a4 hI4 aqT;refine wp_seq (wp_seq (wp_region ?_));rw [show aaU (#[o 33]:Array Oper).size=[0] from rfl];refine aqT.step (v:= .int .i64 0) rfl H.ops.h33 (by decide) (jt H.ops.h33 _) (λa aN=> ?_);obtain ⟨m,hm⟩: ∃m,iter (Jk g n.k v2) m ((0:Int),s1)=some s':=by
   unfold Loop at h;split at h
   ·rename_i hex;have:=ac4 hex;simp only [AI] at h;rw [h] at this;exact this
   ·cases h
  refine wp_block (wp_loop_rounds m (QV H rR VC ?_ m ((0:Int),s1) W4 a _ hm hI4 aN ⟨Ft.h1,Ft.h2,Ft.h3,Ft.h4⟩ rfl));intro a5 W5 σ5 hI5 aqU hF5;exact aaZ H hI5 aqU hF5 H.ops.h58 H.ops.h59 (by decide) (by decide) λa W hx=>hx
theorem tm1 (v0:Value)(k:Nat):Tm {tmps:= #[v0]++adx k undef,defers:=[]} (k+1) (Aq (λ_=>undef) 0 v0):=by
 refine ⟨rfl,by simp [Nat.add_comm],λq=> ?_⟩;by_cases h0:q=0
 ·subst h0;show (#[v0]++adx k undef).getD 0 undef=v0;simp [ac5]
 have e:IT q 0=false:=by
  cases hq:IT q 0 with
  |false=>rfl
  |true=>exact absurd (BY hq) h0
 simp only [Aq,e,cond_false];have h3:1<=q:=by omega
 simp [ac5,Array.getElem?_replicate,show¬q<1 by omega];by_cases hk:q-1<k<;>simp [hk]
theorem Xs {x:Value}(h:x.oneCell'=true):x.cells.toList=[x]:=by cases x<;>simp_all [abB,acY]
theorem aa0 {key:Nat->Nat} {φ:Ph}{x:Value}{s:CS}(h:fZ key φ x (.agg s.ls)): ∃u:Six,x= .agg (u.vs s).toArray/\jz key φ [u.b] (.list s.bl)/\jz key φ [u.w] (.list s.wl)/\jz key φ [u.n] (.list s.nl)/\jz key φ [u.p] (.list s.pl):=by
 obtain ⟨arr,rfl,h⟩:=h;unfold CS.ls at h;generalize hl:arr.toList=L at h;cases h with
 |cons v0 _ r0 _ l0 h=>
 cases h with
 |cons v1 _ r1 _ l1 h=>
 cases h with
 |cons v2 _ r2 _ l2 h=>
 cases h with
 |cons v3 _ r3 _ l3 h=>
 cases h with
 |cons v4 _ r4 _ l4 h=>
 cases h with
 |cons v5 _ r5 _ l5 h=>
 cases h;cases l0;cases l1;obtain ⟨vb,rfl⟩:=yi l2 rfl;obtain ⟨vw,rfl⟩:=yi l3 rfl;obtain ⟨vn,rfl⟩:=yi l4 rfl;obtain ⟨vp,rfl⟩:=yi l5 rfl;exact ⟨⟨vb,vw,vn,vp⟩,by congr 1;exact Array.toList_inj.1 (by rw [hl];rfl),l2,l3,l4,l5⟩
theorem aa1 {φ:Ph}{W:World}(hi:qy φ W){b:Nat}(hb:W.heap.size<=b)(o:Nat):φ b o=none:=by
 cases hq:φ b o with
 |none=>rfl
 |some u=>exact absurd (World.block_lt_of_cell? W _ (hi _ _ _ hq)) (Nat.not_lt.2 hb)
theorem aeE {φ:Ph} {W W':World}(hi:qy φ W)(h: ∀b,b<W.heap.size->W'.heap[b]? =W.heap[b]?):qy φ W':=λb o u hu=>tH (hi b o u hu) (h b)
structure St1 (c:Ctx) (n:CN) (φ0:Ph) (w0:World) (s0:CS) (nl:List MV) (u:Six) (x:Value) (W:World) (φ5:Ph):Prop where
 k1:W.heap[w0.heap.size]? =some (.cells #[.int .i64 s0.F,.int .i64 s0.T,u.b,u.w,x,.slice none 0 0] n.tS (0,0))
 br: ∃arr,W.heap[w0.heap.size+1]? =some (.cells arr n.tS (0,0))/\arr.size=6
 bd:W.heap[w0.heap.size+2]? =some (.cells [OF (some ⟨w0.heap.size,0,none⟩)].toArray n.tP (0,0))
 qA: ∀b,b<w0.heap.size->W.heap[b]? =w0.heap[b]?
 rest:Rest w0 W
 sz:w0.heap.size+3<=W.heap.size
 iC:cT c (bI.plain λb=>w0.heap.size+3<=b) (oO c.key φ5) W x ⟨n.ty,false,nl⟩
 kP:qy φ5 W
 le:lS φ0 φ5
 ph: ∀b o,b<w0.heap.size+3->φ5 b o=φ0 b o
theorem aa2 (H:nO P c g n fn r o){s0:CS}{nl:List MV}{u:Six} {φ0:Ph}{w0:World}{rest:Code}(mn:qy φ0 w0)(WQ:jz c.key φ0 [u.n] (.list s0.nl))(hgc:g n.fCl [.list s0.nl]=some (.fresh nl))(aN:Tm a 52 (Aq (λ_=>undef) 0 (.agg (u.vs s0).toArray)))(hQ: ∀a W σ x φ5,Tm a 52 σ->σ 1= .pointer (some ⟨w0.heap.size,0,none⟩)->σ 2= .pointer (some ⟨w0.heap.size+1,0,none⟩)->σ 3= .pointer (some ⟨w0.heap.size+2,0,none⟩)->St1 c n φ0 w0 s0 nl u x W φ5->rest.wp P Q a W): (Code.seq (.region (r 0) #[o 0,o 1] false) (.seq (.region (r 1) #[o 2,o 3] false) (.seq (.region (r 2) #[o 4,o 5,o 6,o 7,o 8,o 9,o 10] false) rest))).wp P Q a w0:=by
 obtain ⟨IS,s1,s2,s3,s4⟩:=H.tyS;obtain ⟨IP,p1,p2,p3⟩:=H.tyP;obtain ⟨IN,n1,n2,n3⟩:=H.tyN;obtain ⟨IM,m1,m2,m3⟩:=H.tyM;obtain ⟨hSi,hSc⟩:=bG s1;obtain ⟨hPi,hPc⟩:=bG p1;obtain ⟨hNi,hNc⟩:=bG n1;obtain ⟨hMi,hMc⟩:=bG m1;obtain ⟨jS,zS,hjS,hsS,_,hzS,aqV⟩:=lJ (H.hT _ _ hSi) hSc;obtain ⟨jP,zP,hjP,hsP,_,hzP,amk⟩:=lJ (H.hT _ _ hPi) hPc;refine wp_seq (wp_region ?_);rw [show aaU (#[o 0,o 1]:Array Oper).size=[0,1] from rfl];refine aN.step rfl H.ops.h0 (by decide) (aeo H.ops.h0 _) (λa aN=> ?_);obtain ⟨W1,hW1⟩: ∃W1,W1=w0.alloc (.cells (u.vs s0).toArray n.tS):=⟨_,rfl⟩
 rw [show w0.alloc (.cells (ev (Aq (λ_=>undef) 0 (.agg (u.vs s0).toArray)) (.tmp 0)).cells n.tS)=W1 from hW1.symm];have a1:W1.heap[w0.heap.size]? =some (.cells (u.vs s0).toArray n.tS (0,0)):=by rw [hW1];exact iD w0 _
 have a2:W1.heap.size=w0.heap.size+1:=by rw [hW1];simp
 have a3: ∀b,b<w0.heap.size->W1.heap[b]? =w0.heap[b]? :=λb hb=>by rw [hW1];exact (dN.alloc w0 _ _).qA b hb
 have a4:Rest w0 W1:=by rw [hW1];exact .alloc _ _ _
 refine aN.step rfl H.ops.h1 (by decide) (HQ H.ops.h1 hjS hzS _) (λa aN=> ?_);obtain ⟨W2,Lb⟩: ∃W2,W2=W1.alloc (.cells zS.cells n.tS):=⟨_,rfl⟩
 rw [<-Lb];have b1:W2.heap[W1.heap.size]? =some (.cells zS.cells n.tS (0,0)):=by rw [Lb];exact iD W1 _
 have b2:W2.heap.size=W1.heap.size+1:=by rw [Lb];simp
 have b3: ∀b,b<W1.heap.size->W2.heap[b]? =W1.heap[b]? :=λb hb=>by rw [Lb];exact (dN.alloc W1 _ _).qA b hb
 have b4:Rest W1 W2:=by rw [Lb];exact .alloc _ _ _
 refine wp_seq (wp_region ?_);rw [show aaU (#[o 2,o 3]:Array Oper).size=[0,1] from rfl];refine aN.step rfl H.ops.h2 (by decide) (HQ H.ops.h2 hjP hzP _) (λa aN=> ?_);obtain ⟨W3,hW3⟩: ∃W3,W3=W2.alloc (.cells zP.cells n.tP):=⟨_,rfl⟩
 rw [<-hW3];have c1:W3.heap[W2.heap.size]? =some (.cells zP.cells n.tP (0,0)):=by rw [hW3];exact iD W2 _
 have c2:W3.heap.size=W2.heap.size+1:=by rw [hW3];simp
 have c3: ∀b,b<W2.heap.size->W3.heap[b]? =W2.heap[b]? :=λb hb=>by rw [hW3];exact (dN.alloc W2 _ _).qA b hb
 have c4:Rest W2 W3:=by rw [hW3];exact .alloc _ _ _
 refine aN.Jg rfl H.ops.h3 (yh (v:= .pointer (some ⟨w0.heap.size,0,none⟩)) (g:=W2.heap.size) (off:=0) H.ops.h3 (H.hT _ _ hPi) hPc rfl rfl (by simp [abB,p3]) (by simp [abB,acY]) c1 (by rw [amk];omega)) ?_;obtain ⟨W4,hW4⟩: ∃W4,W4=W3.setRow W2.heap.size (zP.cells.toList.take 0++(OF (some ⟨w0.heap.size,0,none⟩)).cells.toList++zP.cells.toList.drop (0+IP.size)).toArray:=⟨_,rfl⟩
 rw [<-hW4];have d1:W4.heap[W2.heap.size]? =some (.cells [OF (some ⟨w0.heap.size,0,none⟩)].toArray n.tP (0,0)):=by
  rw [hW4,qQ _ c1];have:zP.cells.toList.drop (0+IP.size)=[]:=by rw [ade,abJ];rw [abG,amk];exact No _
  rw [this];simp [abB]
 have d2:W4.heap.size=W3.heap.size:=by rw [hW4,setRow_size]
 have d3: ∀b,b≠W2.heap.size->W4.heap[b]? =W3.heap[b]? :=λb hb=>by rw [hW4];exact setRow_other _ _ _ _ hb
 have d4:Rest W3 W4:=by rw [hW4];exact .setRow _ _ _
 have e1:W4.heap[w0.heap.size]? =some (.cells (u.vs s0).toArray n.tS (0,0)):=by rw [d3 _ (by omega),c3 _ (by omega),b3 _ (by omega)];exact a1
 have e2:W4.heap[W1.heap.size]? =some (.cells zS.cells n.tS (0,0)):=by rw [d3 _ (by omega),c3 _ (by omega)];exact b1
 have e3: ∀b,b<w0.heap.size->W4.heap[b]? =w0.heap[b]? :=λb hb=>by rw [d3 _ (by omega),c3 _ (by omega),b3 _ (by omega),a3 b hb]
 have e4:Rest w0 W4:=((a4.trans b4).trans c4).trans d4;have e5:qy φ0 W4:=aeE mn e3;refine wp_seq (wp_region ?_);rw [show aaU (#[o 4,o 5,o 6,o 7,o 8,o 9,o 10]:Array Oper).size=[0,1,2,3,4,5,6] from rfl];refine aN.step rfl H.ops.h4 (by decide) (As (g:=w0.heap.size) (off:=0) (q:=4) H.ops.h4 H.hT s1 s2 (by rw [s3];rfl) rfl _) (λa aN=> ?_);refine aN.step (v:=u.n) rfl H.ops.h5 (by decide) (kH H.ops.h5 (eY (g:=w0.heap.size) (off:=0+4) H.hT n1 n2 n3 (by rw [cell_of e1];rfl))) (λa aN=> ?_);have hcc:=BE (W:=W4) (φ:=φ0) (vs:=[u.n]) (g:=n.fCl) (by rw [H.key];exact H.gv.1) (H.snd _ _ _ hgc) rfl ⟨_,_,rfl,⟨rfl,WQ⟩,rfl⟩ e5;refine aN.call rfl H.ops.h6 (by decide) (aep H.ops.h6 rfl rfl _) hcc ?_;rintro x W5 a ⟨φ5,t5,m5,jK⟩ aN;have jK:cT c (bI.plain λb=>W4.heap.size<=b) (oO c.key φ5) W5 x ⟨n.ty,false,nl⟩:=by have jK:cT c (bI.plain λb=>W4.heap.size<=b) (oO c.key φ5) W5 x ⟨c.nT (c.key n.fCl),false,nl⟩:=jK;rw [H.key,H.nT] at jK;exact jK
 have OP: ∀b,x.ownBlock=some b->W4.heap.size<=b/\b<W5.heap.size:=by obtain ⟨I,cells,q1,q2,q3,q4,q5⟩:=jK.row;exact λb hb=>⟨(q5 b hb).1,N7 q3 hb⟩
 have agx:x.oneCell'=true:=by obtain ⟨I,cells,q1,q2,q3,q4,q5⟩:=jK.row;rcases q3.2 with ⟨h1,_⟩|⟨g,cap,fI,h1,_⟩<;>rw [h1]<;>rfl
 have f1: ∀b,b<W4.heap.size->W5.heap[b]? =W4.heap[b]? :=λb hb=>t5.heap b (by omega) hb;have g1:W5.heap[w0.heap.size]? =some (.cells (u.vs s0).toArray n.tS (0,0)):=by rw [f1 _ (by omega)];exact e1
 refine aN.step rfl H.ops.h7 (by decide) (As (g:=w0.heap.size) (off:=0) (q:=5) H.ops.h7 H.hT s1 s2 (by rw [s3];rfl) rfl _) (λa aN=> ?_);refine aN.Jg rfl H.ops.h8 (yh (v:= .slice none 0 0) (g:=w0.heap.size) (off:=0+5) H.ops.h8 (H.hT _ _ hMi) hMc rfl rfl (by simp [abB,m3]) (by simp [abB,acY]) g1 (by rw [m3];exact No 6)) ?_;obtain ⟨W6,hW6⟩: ∃W6,W6=W5.setRow w0.heap.size ((u.vs s0).toArray.toList.take (0+5)++(aea none 0 0).cells.toList++(u.vs s0).toArray.toList.drop (0+5+IM.size)).toArray:=⟨_,rfl⟩
 rw [<-hW6];have g2:W6.heap[w0.heap.size]? =some (.cells #[.int .i64 s0.F,.int .i64 s0.T,u.b,u.w,u.n,.slice none 0 0] n.tS (0,0)):=by rw [hW6,qQ _ g1,m3];rfl
 have g3:W6.heap.size=W5.heap.size:=by rw [hW6,setRow_size]
 have g4: ∀b,b≠w0.heap.size->W6.heap[b]? =W5.heap[b]? :=λb hb=>by rw [hW6];exact setRow_other _ _ _ _ hb
 have g5:Rest W5 W6:=by rw [hW6];exact .setRow _ _ _
 refine aN.step rfl H.ops.h9 (by decide) (As (g:=w0.heap.size) (off:=0) (q:=4) H.ops.h9 H.hT s1 s2 (by rw [s3];rfl) rfl _) (λa aN=> ?_);have hxc:x.cells.toList=[x]:=Xs agx;refine aN.Jg rfl H.ops.Ot (yh (v:=x) (g:=w0.heap.size) (off:=0+4) H.ops.Ot (H.hT _ _ hNi) hNc rfl rfl (by rw [hxc,n3];rfl) (by rw [hxc];simpa using agx) g2 (by rw [n3];exact Nat.le_succ 5)) ?_;rw [hxc];obtain ⟨W7,hW7⟩: ∃W7,W7=W6.setRow w0.heap.size ((#[.int .i64 s0.F,.int .i64 s0.T,u.b,u.w,u.n,.slice none 0 0]:Array Value).toList.take (0+4)++[x]++(#[.int .i64 s0.F,.int .i64 s0.T,u.b,u.w,u.n,.slice none 0 0]:Array Value).toList.drop (0+4+IN.size)).toArray:=⟨_,rfl⟩
 rw [<-hW7];have k1:W7.heap[w0.heap.size]? =some (.cells #[.int .i64 s0.F,.int .i64 s0.T,u.b,u.w,x,.slice none 0 0] n.tS (0,0)):=by rw [hW7,qQ _ g2,n3];rfl
 have k2:W7.heap.size=W6.heap.size:=by rw [hW7,setRow_size]
 have k3: ∀b,b≠w0.heap.size->W7.heap[b]? =W6.heap[b]? :=λb hb=>by rw [hW7];exact setRow_other _ _ _ _ hb
 have k4:Rest W6 W7:=by rw [hW7];exact .setRow _ _ _
 have awJ:=t5.size;have y2: ∀b,b<W5.heap.size->b≠w0.heap.size->W7.heap[b]? =W5.heap[b]? :=λb hb di=>by rw [k3 b di,g4 b di]
 have hφ5: ∀b o,b<W4.heap.size->φ5 b o=φ0 b o:=λb o hb=>t5.free b o (by omega);have q1:W1.heap.size=w0.heap.size+1:=a2;have q2:W2.heap.size=w0.heap.size+2:=by omega
 have q4:W4.heap.size=w0.heap.size+3:=by omega
 refine hQ a W7 _ x φ5 aN rfl (by show OF (some ⟨W1.heap.size,0,none⟩)=_;rw [q1]) (by show OF (some ⟨W2.heap.size,0,none⟩)=_;rw [q2]) ⟨k1,⟨zS.cells,?_,by rw [aqV,s4]⟩,?_,λb hb=> ?_,(((e4.trans t5.rest).trans g5).trans k4),by omega,?_,?_,t5.ph,λb o hb=>hφ5 b o (by omega)⟩
 ·rw [<-q1,y2 _ (by omega) (by omega),f1 _ (by omega)];exact e2
 ·rw [<-q2,y2 _ (by omega) (by omega),f1 _ (by omega)];exact d1
 ·rw [y2 b (by omega) (by omega),f1 b (by omega)];exact e3 b hb
 ·exact jK.agw (λb hb=>by have:=(OP _ hb).1;omega) (.refl _) (λ_ _ _=>rfl) (λb hb _=>y2 b (OP _ hb).2 (by have:=(OP _ hb).1;omega))
 ·intro b o v hv;by_cases di:b=w0.heap.size
  ·rw [di,hφ5 _ o (by omega),aa1 mn (No _) o] at hv;cases hv
  ·exact tH (m5 b o v hv) λhl=>y2 b hl di
theorem aeF (H:nO P c g n fn r o)(aqX:0<n.sz){ms:List MV}{res:MV}(hm:VB g n.k ms=some res):j8 P c n.f ms res:=by
 unfold VB at hm;split at hm;rotate_left
 ·cases hm
 rename_i ls;cases CV:TR ls with
 |none=>rw [CV] at hm;cases hm
 |some s0=>
 rw [CV] at hm;dsimp only at hm;rw [MP CV];cases hS:MN g n.k s0 with
 |none=>rw [hS] at hm;cases hm
 |some s'=>
 rw [hS] at hm;simp only [AI] at hm;subst hm;unfold MN at hS;cases rl:FA g n.k s0.nl with
 |none=>rw [rl] at hS;cases hS
 |some nl=>
 cases hb:B5 s0.bl with
 |none=>rw [rl,hb] at hS;cases hS
 |some bs=>
 rw [rl,hb] at hS;dsimp only at hS;have hgc:g n.fCl [.list s0.nl]=some (.fresh nl):=by
  unfold FA at rl;split at rl
  ·rename_i l hl;simp only [AI] at rl;subst rl;exact hl
  ·cases rl
 intro φ0 w0 Z0 vs hz0 gl mn;simp only [fJ,H.key,H.gvF,ada,if_false] at gl;obtain ⟨x,rest,rfl,hx,vE⟩:=gl;have vE:rest=[]:=vE;subst vE;obtain ⟨u,rfl,hub,huw,WQ,hup⟩:=aa0 hx;refine (Ar (R:=λx W=>aeB c n φ0 w0 s' x W) H.pos H.name H.body (calls_of_wp H.pos H.body ?_)).imp ?_;rotate_left
 ·rintro x W ⟨φ',t1,t2,t3⟩;exact ⟨φ',t1.GA hz0,t2,t3⟩
 rw [H.tmps];obtain ⟨Ii,i1,i2,i3⟩:=H.tyi;obtain ⟨hii,hic⟩:=bG i1;obtain ⟨ji,zi,vF,hsi,_,hzi,amq⟩:=lJ (H.hT _ _ hii) hic;have key: ∀a:Act,Tm a 52 (Aq (λ_=>undef) 0 (.agg (u.vs s0).toArray))->(Jl r o).wp P (bodyPost P fn λe W=> ∃v,e= .returned v/\aeB c n φ0 w0 s' v W) a w0:=by
  intro a aN;unfold Jl;refine aa2 H mn WQ hgc aN ?_;clear aN;intro a W7 σ x φ5 aN hσ1 hσ2 hσ3 Xt;have k1:=Xt.k1;have OP: ∀b,x.ownBlock=some b->w0.heap.size+3<=b/\b<W7.heap.size:=by obtain ⟨I,cells,q1,q2,q3,q4,q5⟩:=Xt.iC.row;exact λb hb=>⟨(q5 b hb).1,N7 q3 hb⟩
  have rR:=Xt.sz;refine wp_seq (wp_region ?_);rw [show aaU (#[o 11,o 12]:Array Oper).size=[0,1] from rfl];refine aN.step rfl H.ops.HO (by decide) (HQ H.ops.HO vF hzi _) (λa aN=> ?_);obtain ⟨W8,hW8⟩: ∃W8,W8=W7.alloc (.cells zi.cells n.ti):=⟨_,rfl⟩
  rw [<-hW8];have l1:W8.heap[W7.heap.size]? =some (.cells zi.cells n.ti (0,0)):=by rw [hW8];exact iD W7 _
  have l2:W8.heap.size=W7.heap.size+1:=by rw [hW8];simp
  have l3: ∀b,b<W7.heap.size->W8.heap[b]? =W7.heap[b]? :=λb hb=>by rw [hW8];exact (dN.alloc W7 _ _).qA b hb
  have l4:Rest W7 W8:=by rw [hW8];exact .alloc _ _ _
  refine aN.Jg rfl H.ops.TH (yh (v:= .int .i64 0) (g:=W7.heap.size) (off:=0) H.ops.TH (H.hT _ _ hii) hic rfl rfl (by simp [abB,i3]) (by simp [abB,acY]) l1 (by rw [amq];omega)) ?_;obtain ⟨W9,hW9⟩: ∃W9,W9=W8.setRow W7.heap.size (zi.cells.toList.take 0++(Value.int .i64 0).cells.toList++zi.cells.toList.drop (0+Ii.size)).toArray:=⟨_,rfl⟩
  rw [<-hW9];have o1:xd W9 W7.heap.size 0:=by
   refine ⟨n.ti,?_⟩;rw [hW9,qQ _ l1];have:zi.cells.toList.drop (0+Ii.size)=[]:=by rw [ade,abJ];rw [abG,amq];exact No _
   rw [this];simp [abB]
  have o2:W9.heap.size=W8.heap.size:=by rw [hW9,setRow_size]
  have o3: ∀b,b<W7.heap.size->W9.heap[b]? =W7.heap[b]? :=λb hb=>by rw [hW9,setRow_other _ _ _ _ (by omega)];exact l3 b hb
  have o4:Rest W8 W9:=by rw [hW9];exact .setRow _ _ _
  have y1:W9.heap[w0.heap.size]? =some (.cells ((Six.mk u.b u.w x (.slice none 0 0)).vs ⟨s0.F,s0.T,s0.bl,s0.wl,nl,[]⟩).toArray n.tS (0,0)):=by rw [o3 _ (by omega)];exact k1
  have y3: ∀b,b<w0.heap.size->W9.heap[b]? =w0.heap[b]? :=λb hb=>by rw [o3 b (by omega)];exact Xt.qA b hb
  have y4:W9.heap[w0.heap.size+2]? =some (.cells [OF (some ⟨w0.heap.size,0,none⟩)].toArray n.tP (0,0)):=by rw [o3 _ (by omega)];exact Xt.bd
  obtain ⟨zc,y5,y5s⟩:=Xt.br;have y5:W9.heap[w0.heap.size+1]? =some (.cells zc n.tS (0,0)):=by rw [o3 _ (by omega)];exact y5
  have y6:Rest w0 W9:=(Xt.rest.trans l4).trans o4;have hφN: ∀b o,w0.heap.size<=b->b<w0.heap.size+3->φ5 b o=none:=λb o h1 h2=>by rw [Xt.ph b o h2];exact aa1 mn h1 o
  have hle:=OH (φ:=φ5) (b:=w0.heap.size+2) (vs:=[OF (some ⟨w0.heap.size,0,none⟩)]) λo=>hφN _ o (by omega) (by omega);have hph: ∀b o,b≠w0.heap.size+2->OG φ5 (w0.heap.size+2) [OF (some ⟨w0.heap.size,0,none⟩)] b o=φ5 b o:=λb o hb=>by unfold OG;rw [if_neg hb]
  have aq0:qy φ5 W9:=λb o v hv=>tH (Xt.kP b o v hv) λhl=>o3 b hl;have aa3:=(Xt.le.trans hle)
  have S2:jz c.key (OG φ5 (w0.heap.size+2) [OF (some ⟨w0.heap.size,0,none⟩)]) [aea none 0 0] (.list []):= .list none 0 [] 0 0 0 (λ_=>[]) (by simp) (by simp) (by simp) (by simp) (by simp);have sN:MM c (λb=>b=w0.heap.size\/x.ownBlock=some b) (OG φ5 (w0.heap.size+2) [OF (some ⟨w0.heap.size,0,none⟩)]) W9 w0.heap.size n.ty ⟨s0.F,s0.T,s0.bl,s0.wl,nl,[]⟩ ⟨u.b,u.w,x,.slice none 0 0⟩:=by refine ⟨⟨_,y1⟩,.inl rfl,λo=>by rw [hph _ o (by omega)];exact hφN _ o (No _) (by omega),hub.mono aa3,huw.mono aa3,S2,?_,λhe=>by have:=(OP _ he).1;omega⟩;exact Xt.iC.agw (λb hb=> .inr hb) hle (λb o hb=>hph b o (by have:=(OP _ hb).1;omega)) (λb hb hl=>o3 b hl)
  have hI:BF c n φ0 w0 (OG φ5 (w0.heap.size+2) [OF (some ⟨w0.heap.size,0,none⟩)]) w0.heap.size W7.heap.size (w0.heap.size+1) ⟨s0.F,s0.T,s0.bl,s0.wl,nl,[]⟩ 0 W9:=by
   refine ⟨_,_,sN.cell,OI aq0 y4,⟨aa3,λb hb hl=>y3 b hl,λb o hb=> ?_,by omega,y6⟩,.refl _,?_,o1,?_,λo=> ?_,by omega,⟨zc,n.tS,y5,y5s⟩,?_,λo=> ?_,by omega,by omega⟩
   ·rw [hph b o (by omega)];exact Xt.ph b o (by omega)
   ·rintro b (rfl|hb)
    ·exact No _
    ·have:=(OP _ hb).1;omega
   ·rintro (hb|hb)
    ·omega
    ·have:=(OP _ hb).2;omega
   ·rw [hph _ o (by omega)];exact aa1 Xt.kP (No _) o
   ·rintro (hb|hb)
    ·omega
    ·have:=(OP _ hb).1;omega
   ·rw [hph _ o (by omega)];exact hφN _ o (by omega) (by omega)
  exact aeC H aqX hI (bd:=w0.heap.size+2) (by simp [OG]) aN ⟨hσ1,hσ2,hσ3,rfl⟩ hb hS
 exact key _ (tm1 _ 51)
end
end Dn
/-
  One function that is handed a variable in two ways. Conditions: none.
-/
namespace Dn
open Go
abbrev aeG (n:Nat)(g:Nat->List MV->Option MV):Nat->List MV->Option MV:=λk ms=>match IT k n with|true=>none|false=>g k ms
structure GF (k0:Nat) (c c':Ctx):Prop where
 ti:c'.ti=c.ti
 key:c'.key=c.key
 fF:c'.fF=c.fF
 fresh:c'.fresh=c.fresh
 nT:c'.nT=c.nT
 sig: ∀k,k≠k0->c'.sig k=c.sig k
theorem iG.Cp {k0:Nat} {c c':Ctx}(h:GF k0 c c'){Z:Nat->Prop} {φ:Ph}{w:World}{k:Nat}{v:Value}{r:MV}(hs:iG c Z φ w k v r):iG c' Z φ w k v r:=by
 cases r<;>simp only [iG,h.key,h.nT] at hs⊢ <;>first|exact hs|exact hs.lv h.ti|skip
 rename_i ms;cases ms with
 |nil=>simp only [Lo,h.key] at hs⊢;exact hs
 |cons m r=>
  cases m<;>simp only [Lo,h.key,h.nT] at hs⊢ <;>first|exact hs|skip
  obtain ⟨v0,us,h1,h2,h3⟩:=hs;exact ⟨v0,us,h1,h2.lv h.ti,h3⟩
theorem gz.Cp {k0:Nat} {c c':Ctx}(h:GF k0 c c'){Z:Nat->Prop} {φ:Ph}{w:World}{bt:Nat}{ks:List LK}{ls:List MV}(hs:gz c Z φ w bt ks ls):gz c' Z φ w bt ks ls:=by obtain ⟨cs,m,E,arr,T,h1,h2,h3,h4,h5,h6,h7⟩:=hs;refine ⟨cs,m,E,arr,T,h1,h2,h3,h4,by rw [h.key];exact h5,λf o ho=>⟨?_,(h6 f o ho).2⟩,h7⟩;rw [h.key];exact (h6 f o ho).1.lv h.ti
theorem vq.Cp {k0:Nat} {c c':Ctx}(h:GF k0 c c'){Z:Nat->Prop} {φ:Ph}{w:World}{k:Nat}(hk:k≠k0){vs:List Value}{v:Value}{r:MV}(hs:vq c Z φ w k vs v r):vq c' Z φ w k vs v r:=by
 cases r<;>simp only [vq] at hs⊢ <;>first|exact hs.Cp h|skip
 obtain ⟨h1,pos,ks,bt,off,h2,h3,h4⟩:=hs;exact ⟨h1.Cp h,pos,ks,bt,off,by rw [h.sig k hk];exact h2,h3,h4.Cp h⟩
theorem fJ.Cp {k0:Nat} {c c':Ctx}(h:GF k0 c c'){Z:Nat->Prop} {φ:Ph}{w:World}{k:Nat}(hk:k≠k0){vs:List Value}{ms:List MV}(hs:fJ c' Z φ w k vs ms):fJ c Z φ w k vs ms:=by
 unfold fJ at hs⊢;rw [h.fF] at hs;split
 ·rename_i hg;rw [if_pos hg] at hs;rcases hs with ⟨v0,v1,v2,xs,m1,ys,h1,h2,h3,h4,h5,h6⟩|⟨v0,v1,v2,xs,m1,m2,h1,h2,h3,h4,h5,h6⟩|⟨pos,ks,off,ls,bt,h1,h2,h3,h4,h5⟩
  ·rw [h.key,h.nT] at h3 h5;rw [h.key] at h4;exact .inl ⟨v0,v1,v2,xs,m1,ys,h1,h2,h3.lv h.ti.symm,h4,h5.lv h.ti.symm,h6⟩
  ·rw [h.key,h.nT] at h4;rw [h.key] at h5 h6;exact .inr (.inl ⟨v0,v1,v2,xs,m1,m2,h1,h2,h3,h4.lv h.ti.symm,h5,h6⟩)
  ·refine .inr (.inr ⟨pos,ks,off,ls,bt,by rw [<-h.sig k hk];exact h1,h2,h3,by rw [<-h.key];exact h4,?_⟩);obtain ⟨cs,m,E,arr,T,k1,k2,k3,k4,k5,k6,k7⟩:=h5;refine ⟨cs,m,E,arr,T,k1,k2,k3,k4,by rw [<-h.key];exact k5,λf o ho=>⟨?_,(k6 f o ho).2⟩,k7⟩;rw [<-h.key];exact (k6 f o ho).1.lv h.ti.symm
 ·rename_i hg;rw [if_neg hg,h.key] at hs;exact hs
theorem j8.Cp {P:Program}{k0:Nat} {c c':Ctx}{f:Nat}{ms:List MV}{r:MV}(h:GF k0 c c')(hk:c.key f≠k0)(hs:j8 P c f ms r):j8 P c' f ms r:=by intro φ w Z vs hz ha hi;rw [h.key] at ha;refine (hs φ w Z vs hz (ha.Cp h hk) hi).mono ?_;rintro v w' ⟨φ',h1,h2,h3⟩;rw [h.key];exact ⟨φ',h1,h2,h3.Cp h hk⟩
theorem dL.alt {P:Program}{k0:Nat} {c c':Ctx}{g:Nat->List MV->Option MV}(h:dL P c g)(hl:GF k0 c c'):dL P c' (aeG k0 g):=by
 refine ⟨λf ms r hr=> ?_⟩;rw [hl.key] at hr;unfold aeG at hr;cases hk:IT (c.key f) k0 with
 |true=>simp only [hk] at hr;cases hr
 |false=>simp only [hk] at hr;refine (h.all f ms r hr).Cp hl (λhe=> ?_);rw [he,Nat.beq_refl] at hk;cases hk
end Dn
/-
  Going through a map, in whatever order; a label at the end of a scope. Conditions: none.
-/
namespace Dn
noncomputable section
open Go
def yj {R:Type}(x:Option (Sum Unit R)):Bool:=match x with|some (.inl _)=>true|_=>false
def um {α R:Type}(f:α->Option (Sum Unit R))(d:Option R):List α->Option R
 |[]=>d
 |x::xs=>match f x with
  |some (.inl _)=>um f d xs
  |some (.inr r)=>bif xs.all λy=>yj (f y) then some r else none
  |none=>none
structure YK where
 i1:Nat
 o1:Array Oper
 a1:Oper
 b1:Oper
 x:Operand
 d1:Nat
 t:Nat
 d2:Nat
 k:Nat
 i2:Nat
 o2:Array Oper
 a2:Oper
 r2:List Oper
 cx:Operand
 kx:Nat
 k5:Nat
 i3:Nat
 o3:Array Oper
 a3:Oper
 r3:List Oper
 rest:Code
def YK.body (q:YK):Code:= .seq (.region q.i2 q.o2 false) (.seq (.cond q.cx .skip (.exit q.kx)) (.block q.k5 (.seq (.region q.i3 q.o3 false) q.rest)))
def YK.code (q:YK):Code:= .seq (.region q.i1 q.o1 false) (.block q.k (.loop q.body))
def isNone {α:Type}:Option α->Bool
 |none=>true
 |some _=>false
def amu (o:Oper):Option Operand:=match o.op with| .move x=>some x|_=>none
def amv (o:Oper)(d:Nat):Option Nat:=match o.op with| .range t (.tmp y)=>bif IT y d then some t else none|_=>none
def aih (o:Oper)(d:Nat):Bool:=match o.op with| .next (.tmp y) false=>IT y d|_=>false
def aii (o:Oper)(d:Nat):Bool:=match o.op with| .entry (.tmp y)=>IT y d|_=>false
def VE (code:Code):Option YK:=match code with
 | .seq (.region i1 o1 false) (.block k (.loop (.seq (.region i2 o2 false) (.seq (.cond cx .skip (.exit kx)) (.block k5 (.seq (.region i3 o3 false) rest))))))=>
  (match o1.toList,o2.toList,o3.toList with
  |[a1,b1],a2::r2,a3::r3=>(match amu a1,a1.dst,b1.dst with
   |some x,some d1,some d2=>(match amv b1 d1 with
    |some t=>bif aih a2 d2&&(aii a3 d2&&(isNone a1.guard&&(isNone b1.guard&&(isNone a2.guard&&isNone a3.guard)))) then
     some ⟨i1,o1,a1,b1,x,d1,t,d2,k,i2,o2,a2,r2,cx,kx,k5,i3,o3,a3,r3,rest⟩ else none
    |none=>none)
   |_,_,_=>none)
  |_,_,_=>none)
 |_=>none
def QW {R:Type}(m:MV)(K:List UInt8->Int->Option R):Option R:=gT m λl=>gC l λka r=>gA ka λks=>gC ks λk0 kr=>gN kr<|gS k0 λkey=>gC r λv0 vr=>gN vr<|gI .i64 v0 λn=>K key n
def aeH (c:Ctx)(q:YK)(st:St)(m:MV):Option (Sum Unit (Nat×List MV)):=QW m λkey n=>bC c st q.a2.dst (.eu [.sc (.p (.b true)),.sc (.p (.s key)),.sc (.p (.i .i64 n))]) λst=>CJ c q.o2.toList q.r2 st λst=>(match aT c st q.cx with
  | .sc (.p (.b true))=>bC c st q.a3.dst (.eu [.sc (.p (.s key)),.sc (.p (.i .i64 n))]) λst=>CJ c q.o3.toList q.r3 st λst=>lr c q.rest (Sum Unit (Nat×List MV)) st λe st=>bif IT e 0||IT e (q.k5+2) then some (.inl ()) else mE st [] ((c.wM q.i2).ex e) λvs=>some (.inr (e,vs))
  |_=>none)
def aij (c:Ctx)(q:YK)(st:St):Option (Nat×List MV):=bC c st q.a2.dst (.eu [.sc (.p (.b false))]) λst=>CJ c q.o2.toList q.r2 st λst=>(match aT c st q.cx with
  | .sc (.p (.b false))=>mE st [] ((c.wM q.i2).ex (q.kx+2)) λvs=>some (q.kx+2,vs)
  |_=>none)
def aik (c:Ctx)(q:YK){R:Type}(st:St)(K:Nat->St->Option R):Option R:=bC c st (some q.d1) (aT c st q.x) λst=>match aT c st (.tmp q.d1),we c q.t with
  | .zT root,some s0=>(match av st.fr root with
   | .box [.mp s _]=>bif y8 root||!msB s s0 then none else
    bC c st (some q.d2) (.sc .un) λst=>CL c (c.wM q.i2) st λ_ ef=>(match (c.wM q.i2).outs,av ef.fr root with
     |[],.box [.mp s2 es]=>bif s2.st||(!Dz s2.lay [.s]||(s2.b||!bJ ef.cI q.d2)) then none else
      bd (um (aeH c q ef) (aij c q ef) es) λr=>exs (minus (lR q.body) [0]) r.1 λe=>nF (wg st ef) ((c.wM q.i2).ex e) r.2 λst=>K (bif IT e (q.k+2) then 0 else e) st
     |_,_=>none)
   |_=>none)
  |_,_=>none
def aa4 (a b:Code):Option Nat:=match a,b with
 | .goto l,.skip=>some l
 |_,_=>none
def Jn (c:Ctx){R:Type}(l:Nat)(G:St->Option R):Code->St->(Nat->St->Option R)->Option R
 | .seq a b,st,K=>Jn c l G a st λe st=>bif IT e 0 then Jn c l G b st K else K e st
 | .cond x a b,st,K=>(match aa4 a b with
  |some l'=>bif IT l' l then (match aT c st x with| .sc (.p (.b v))=>bH v (G st) (K 0 st)|_=>none) else none
  |none=>lr c (.cond x a b) R st K)
 | .label _,st,K=>K 0 st
 |code,st,K=>lr c code R st K
def GG (c:Ctx){R:Type}:Code->St->(Nat->St->Option R)->Option R
 | .seq a b,st,K=>(match VE a with
  |some q=>aik c q st λe st=>bif IT e 0 then GG c b st K else K e st
  |none=>lr c a R st λe st=>bif IT e 0 then GG c b st K else K e st)
 | .scope b,st,K=>(match findLabel b 0 with
  |some rest=>Jn c 0 (λst=>lr c rest R st K) b st K
  |none=>none)
 |code,st,K=>lr c code R st K
def QX (c:Ctx)(dJ:List (List Kd))(fresh:Option Nat)(f:Func)(args:List MV):Option MV:=U1 (λb st K=>GG c b st K) c dJ fresh f args
theorem QY {α R:Type}{f:α->Option (Sum Unit R)}{d:Option R}{r:R}: ∀{es:List α},um f d es=some r->(∀m∈es,f m=some (.inl ())\/f m=some (.inr r))/\((∀m∈es,f m=some (.inl ()))->d=some r):=by
 intro es;induction es with
 |nil=>intro h;exact ⟨by simp,λ_=>h⟩
 |cons x xs ih=>
  intro h;simp only [um] at h;split at h
  ·rename_i u hx;obtain ⟨h1,h2⟩:=ih h;refine ⟨λm hm=> ?_,λhm=>h2 λm hx=>hm m (List.mem_cons_of_mem _ hx)⟩;rcases adW.1 hm with rfl|hm
   ·exact .inl hx
   ·exact h1 m hm
  ·rename_i r' hx;cases ha:xs.all λy=>yj (f y) with
   |false=>rw [ha] at h;cases h
   |true=>
    rw [ha] at h;simp only [cond_true,AI] at h;subst h;refine ⟨λm hm=> ?_,λhm=> ?_⟩
    ·rcases adW.1 hm with rfl|hm
     ·exact .inr hx
     ·rw [adg] at ha;have:=ha m hm;unfold yj at this;split at this
      ·rename_i u hu;exact .inl hu
      ·cases this
    ·have:=hm x (by simp);rw [hx] at this;cases this
  ·cases h
section
variable {P:Program}{c:Ctx}{Z Zb Zi:bI} {e e' e3:Env}{st bZ pC B:St} {a a':Act} {w w':World}{R:Type}{r:R}{Q:Exit->Act->World->Prop}{o:Oper}{hn:pv}
def bI.cv (Z:bI)(g:Nat):bI:={Z with In:=λb=>Z.In b/\b≠g}
theorem kV.amw {g:Nat}(j:kV c Zb Zi e B hn a w)(hg:g<w.heap.size):kV c Zb (Zi.cv g) e B hn a w:=⟨j.uh,λb hb=>j.sub b hb.1,λb hb=>⟨j.new b hb,by omega⟩,j.cI,j.T,j.keys,λt cs ht hz=>j.box t cs ht hz.1,λf o b ho hb hz=>j.iC f o b ho hb hz.1,j.Z7,j.WL,j.ptr,j.YD⟩
theorem kV.agy {g:Nat}(j:kV c Zi Zi e B hn a w)(hg:g<w.heap.size):b9 c (Zi.cv g) e B a w:=by
 have h:=j.uh;have hm:e.m=B.bo:=h.m;have:=h.sub (Zi:=Zi.cv g) (bZ:=B) (λ_ h=>h) ⟨h.defers.2.1,h.defers.2.2.1,h.defers.2.2.2⟩ h.nodup (λt=> .inr ⟨j.ptr t,.inl rfl⟩) (λf o ho=>⟨o,ho,rfl,rfl,id⟩) (by
   intro t cs ht;have hs:=h.slot t;rw [ht] at hs;rcases hs.2.cS with h1|h1
   ·exact .inl h1
   ·exact absurd h1 (j.box t cs ht))
  (by
   intro f o b ho hb;obtain ⟨I,cells,_,_,_,_,g5⟩:=(h.iC f o ho).row;rcases (g5 b hb).1 with h1|h1
   ·exact .inl h1
   ·exact absurd h1 (j.iC f o b ho hb))
  (by intro f o I cells b ho hp hz hI eW hb k hk;obtain ⟨I',NX,g1,_,g3,_,g5⟩:=(h.iC f o ho).row;rw [hI] at g1;cases g1;rw [vl eW g3 hb] at hk⊢;exact (g5 b hb).2.2 hp hz k hk)
  (λb hb=>⟨j.new b hb,by omega⟩)
 have he:{e with m:=B.bo}=e:=by cases e;simp at hm⊢;exact hm.symm
 rw [he] at this;exact this
theorem OQ {d:Nat}{s:Slot}{K:St->Option R}(hK:bC c st (some d) s K=some r):dy (av st.fr d)=false/\d∉st.cI/\d<c.n:=by
 simp only [bC] at hK;cases uf:y8 d||(acX c.n d||dy (av st.fr d)) with
 |true=>simp [uf] at hK
 |false=>
  obtain ⟨_,hb⟩:=abC.1 uf;obtain ⟨u6,qx⟩:=abC.1 hb;simp only [uf,cond_false,wr] at hK;cases hp:bJ st.cI d with
  |true=>simp [hp] at hK
  |false=>
   refine ⟨qx,λhm=> ?_,?_⟩
   ·rw [<-bL,hp] at hm;cases hm
   ·by_cases hh:d<c.n
    ·exact hh
    ·rw [acT (by omega)] at u6;cases u6
theorem TU {code:Code}{q:YK}(h:VE code=some q):code=q.code/\q.o1.toList=[q.a1,q.b1]/\q.o2.toList=q.a2::q.r2/\q.o3.toList=q.a3::q.r3/\q.a1.op= .move q.x/\q.a1.dst=some q.d1/\ q.b1.op= .range q.t (.tmp q.d1)/\q.b1.dst=some q.d2/\q.a2.op= .next (.tmp q.d2) false/\q.a3.op= .entry (.tmp q.d2)/\q.a1.guard=none/\q.b1.guard=none/\q.a2.guard=none/\q.a3.guard=none:=by
 have hN: ∀{α:Type} {x:Option α},isNone x=true->x=none:=by intro α x hx;cases x<;>first|rfl|cases hx
 unfold VE at h;split at h
 ·rename_i i1 o1 k i2 o2 cx kx k5 i3 o3 rest;split at h
  ·rename_i a1 b1 a2 r2 a3 r3 e1 e2 e3;split at h
   ·rename_i x d1 d2 g1 g2 g3;split at h
    ·rename_i t g4;cases hb:aih a2 d2&&(aii a3 d2&&(isNone a1.guard&&(isNone b1.guard&&(isNone a2.guard&&isNone a3.guard)))) with
     |false=>rw [hb] at h;cases h
     |true=>
      rw [hb] at h;simp only [cond_true,AI] at h;subst h;simp only [acU] at hb;obtain ⟨k1,k2,k3,k4,k5',k6⟩:=hb;refine ⟨rfl,e1,e2,e3,?_,g2,?_,g3,?_,?_,hN k3,hN k4,hN k5',hN k6⟩
      ·unfold amu at g1;split at g1
       ·rename_i y hy;cases g1;exact hy
       ·cases g1
      ·unfold amv at g4;split at g4
       ·rename_i t' y hy;cases hyd:IT y d1 with
        |false=>rw [hyd] at g4;cases g4
        |true=>rw [hyd] at g4;simp only [cond_true,AI] at g4;subst g4;rw [hy,BY hyd]
       ·cases g4
      ·unfold aih at k1;split at k1
       ·rename_i y hy;rw [hy,BY k1]
       ·cases k1
      ·unfold aii at k2;split at k2
       ·rename_i y hy;rw [hy,BY k2]
       ·cases k2
    ·cases h
   ·cases h
  ·cases h
 ·cases h
theorem TV {g:Nat} {φ:Ph}{w1:World} {o o':Obj}(hz:Zi.In g)(hw:w1=w\/w1=w.drew)(ho:w.heap[g]? =some o)(hf: ∀x y z,o≠ .cells x y z)(Zp: ∀x y z,o'≠ .cells x y z):Trans Zi.In φ w φ (sh w1 g o'):=by
 have hh:w1.heap=w.heap:=by rcases hw with rfl|rfl<;>rfl
 refine ⟨.refl _,λb hb hl=> ?_,λ_ _ _=>rfl,?_,?_⟩
 ·simp only [sh,hh];rw [aau (by intro he;subst he;exact hb hz)]
 ·simp [sh,hh]
 ·refine ⟨by rcases hw with rfl|rfl<;>rfl,by rcases hw with rfl|rfl<;>rfl,by rcases hw with rfl|rfl<;>rfl,λx=> ?_⟩;unfold adY;by_cases hx:x.block=g
  ·have hl:=aZ ho;have e1:(sh w1 g o').heap[x.block]? =some o':=by rw [hx];simp [sh,hh,hl]
   rw [e1,hx,ho];cases o<;>cases o'<;>first|rfl|(exfalso;exact hf _ _ _ rfl)|(exfalso;exact Zp _ _ _ rfl)
  ·have e1:(sh w1 g o').heap[x.block]? =w.heap[x.block]? :=by simp only [sh,hh];rw [aau (Ne.symm hx)]
   rw [e1]
end
end
end Dn
/-
  Going through a map, in whatever order: it does what is said. Conditions: none.
-/
namespace Dn
open Go
section
variable {P:Program}{c:Ctx}{Z Zb Zi:bI} {e e' e3:Env}{st bZ pC B:St} {a a':Act} {w w':World}{R:Type}{r:R}{Q:Exit->Act->World->Prop}{o:Oper}{hn:pv}
theorem MR {ops:Array Oper}{i:Nat}{nx:Act->World->Prop}(hi:ops[i]? =some o)(hg:o.guard=none)(h:o.wp P a w nx Q):wpOp P ops Q i nx a w:=by
 unfold wpOp;simp only [hi];have:ad1 o (yielded ops a.tmps)=true:=by unfold ad1;rw [hg]
 rw [this];simp only [if_true];exact .inl h
theorem DY {id:Nat}{ops:Array Oper}{l:List Oper}{nx:Act->World->Prop}(hl:ops.toList=o::l)(hg:o.guard=none)(h:o.wp P a w nx Q)(hn: ∀a' w',nx a' w'->wpOps P ops Q ((aaU l.length).map (· +1)) a' w'):(Code.region id ops false).wp P Q a w:=by
 refine wp_region ?_;have hs:ops.size=l.length+1:=by rw [<-abG,hl];rfl
 rw [hs,List.range_succ_eq_map,wpOps_cons];have h0:ops[0]? =some o:=by rw [<-aaJ,hl];rfl
 exact wpOp_mono hn (MR h0 hg h)
theorem Jo {ops:Array Oper}{l:List Oper}(hl:ops.toList=o::l):((aaU l.length).map (· +1)).map (ops[·]?)=l.map some:=by
 apply acv;intro i;simp only [abE];by_cases hi:i<l.length
 ·have:ops[i+1]? =l[i]? :=by rw [<-aaJ,hl];rfl
  simp [ac9 hi,this,hi]
 ·have h1:(aaU l.length)[i]? =none:=by simp;omega
  have h2:l[i]? =none:=by simp;omega
  rw [h1,h2];rfl
def bI.wd (Z:bI)(g:Nat):bI:={Z with In:=λb=>Z.In b\/b=g}
theorem Jp {g:Nat}{m:Option Nat}{s:Nat}{seen:Array Nat}{k:Nat}(h:b9 c Z e st a w)(hg:w.heap[g]? =some (.mapIter m s seen k)): (∀t cs,av st.fr t= .box cs->e.B t≠g)/\(∀f o,aQ st.bo f=some o->(e.E f).ownBlock≠some g):=by
 refine ⟨λt cs ht he=> ?_,λf o ho he=> ?_⟩
 ·have hs:=h.slot t;rw [ht] at hs;obtain ⟨ob,h1,h2⟩:=hs.2.obj;rw [he,hg] at h1;cases h1;exact h2.elim
 ·obtain ⟨I,cells,_,_,h3,_⟩:=(h.iC f o ho).row;rcases h3.2 with ⟨h1,_⟩|⟨g',cap,fI,h1,_,h2,_⟩
  ·rw [h1] at he;cases he
  ·rw [h1] at he;simp only [Value.ownBlock,AI] at he;subst he;rw [hg] at h2;cases h2
theorem kV.wide {g:Nat}{m:Option Nat}{s:Nat}{seen:Array Nat}{k:Nat}(j:kV c Zb Zi e B hn a w)(hz:Zb.In g)(hg:w.heap[g]? =some (.mapIter m s seen k)):kV c Zb (Zi.wd g) e B hn a w:=by obtain ⟨h1,h2⟩:=Jp j.uh hg;exact ⟨j.uh,λb hb=>hb.elim (j.sub b) (λhe=>by rw [he];exact hz),λb hb=> .inl (j.new b hb),j.cI,j.T,j.keys,λt cs ht hz=>hz.elim (j.box t cs ht) (h1 t cs ht),λf o b ho hb hz=>hz.elim (j.iC f o b ho hb) (λhe=>h2 f o ho (by rw [hb,he])),j.Z7,j.WL,j.ptr,j.YD⟩
theorem kV.aq2 {g:Nat}(j:kV c Zi Zi e B hn a w):b9 c (Zi.wd g) e B a w:=by
 have h:=j.uh;have hm:e.m=B.bo:=h.m;have:=h.sub (Zi:=Zi.wd g) (bZ:=B) (λ_ h=>h) ⟨h.defers.2.1,h.defers.2.2.1,h.defers.2.2.2⟩ h.nodup (λt=> .inr ⟨j.ptr t,.inl rfl⟩) (λf o ho=>⟨o,ho,rfl,rfl,id⟩) (by
   intro t cs ht;have hs:=h.slot t;rw [ht] at hs;rcases hs.2.cS with h1|h1
   ·exact .inl h1
   ·exact .inr (.inl h1))
  (by
   intro f o b ho hb;obtain ⟨I,cells,_,_,_,_,g5⟩:=(h.iC f o ho).row;rcases (g5 b hb).1 with h1|h1
   ·exact .inl h1
   ·exact .inr (.inl h1))
  (by intro f o I cells b ho hp hz hI eW hb k hk;obtain ⟨I',NX,g1,_,g3,_,g5⟩:=(h.iC f o ho).row;rw [hI] at g1;cases g1;rw [vl eW g3 hb] at hk⊢;exact (g5 b hb).2.2 hp hz k hk)
  (λb hb=> .inl (j.new b hb))
 have he:{e with m:=B.bo}=e:=by cases e;simp at hm⊢;exact hm.symm
 rw [he] at this;exact this
theorem kV.amx {g:Nat}{m:Option Nat}{s:Nat}{seen:Array Nat}{k:Nat}(j:kV c Zi Zi e B hn a w)(hg:w.heap[g]? =some (.mapIter m s seen k)):kV c (Zi.wd g) (Zi.wd g) e B hn a w:=by obtain ⟨h1,h2⟩:=Jp j.uh hg;exact ⟨j.aq2,λb hb=>hb,λb hb=> .inl (j.new b hb),j.cI,j.T,j.keys,λt cs ht hz=>hz.elim (j.box t cs ht) (h1 t cs ht),λf o b ho hb hz=>hz.elim (j.iC f o b ho hb) (λhe=>h2 f o ho (by rw [hb,he])),j.Z7,j.WL,j.ptr,j.YD⟩
theorem C2 {k n:Nat}(h:Q (lU (bif IT n (k+2) then 0 else n)) a w):abz k Q (lU n) a w:=by
 by_cases hk:n=k+2
 ·subst hk;simp only [eO,decide_true,cond_true] at h;simpa [lU,abz] using h
 ·simp only [eO,hk,decide_false,cond_false] at h;match n,hk,h with
  |0,_,h=>exact h
  |1,_,h=>exact h
  |i+2,hk,h=>have hi:i≠k:=λhe=>hk (by rw [he]);simpa [lU,abz,hi] using h
theorem OR {α:Type}{l:List α}{i:Nat}{x:α}(h:l[i]? =some x):x∈l:=List.mem_of_getElem? h
theorem ail (hG:Good P c)(hD:IR P c){q:YK}{code:Code}(hq:VE code=some q){K:Nat->St->Option R}(h:b9 c Z e st a w)(hK:aik c q st K=some r)(hQ: ∀n e' bZ a' w',b9 c Z e' bZ a' w'->Trans Z.In e.φ w e'.φ w'->K n bZ=some r->Q (lU n) a' w'):code.wp P Q a w:=by
 obtain ⟨rfl,l1,l2,l3,m1,m2,m3,m4,m5,m6,g1,g2,g3,g4⟩:=TU hq;unfold aik at hK;unfold YK.code;refine wp_seq ?_;obtain ⟨hx,hrx⟩:=h.eval q.x;refine DY l1 g1 (fin (v:=a.eval q.x) (s:=aT c st q.x) (by simp [execOp,m1]) h (.refl _ _ _) (.of hx hrx) (by rw [m2];exact hK)) ?_;rintro a1 w1 ⟨e1,cR,h1,t1,nX⟩;try dsimp only at nX
 obtain ⟨Ss,_⟩:=h1.eval (.tmp q.d1);split at nX
 ·rename_i root s0 YF hs0;rw [YF] at Ss;split at nX
  ·rename_i s es0 uZ;cases hp:y8 root||!msB s s0 with
   |true=>rw [hp] at nX;cases nX
   |false=>
    rw [hp] at nX;simp only [cond_false] at nX;simp only [abC,adb] at hp;obtain ⟨Ch,Lq⟩:=hp;have Lq:=Tc Lq;subst Lq;have hit:=Vi hs0;simp only [ah] at Ss;have qv:=h1.slot root;rw [uZ] at qv;obtain ⟨ob,Wn,cU⟩:=qv.2.obj;obtain ⟨arr,clock,rfl,xQ⟩: ∃arr clock,ob= .map arr clock/\rP s arr clock es0:=by
     cases ob with
     |cells x y z=>exact absurd cU.2.Ce (by simp [iW])
     |map arr clock=>obtain ⟨s2,ms2,k1,k2,k3⟩:=cU;simp only [ac3,aE.mp.injEq,and_true] at k1;obtain ⟨rfl,rfl⟩:=k1;exact ⟨arr,clock,rfl,k3⟩
     |stringIter b pos=>have k1:[aE.mp s es0]=[aE.mp MS.it _]:=cU;simp only [ac3,aE.mp.injEq,and_true] at k1;rw [k1.1] at hit;cases hit
     |_=>exact cU.elim
    obtain ⟨kt,el,jJ,_⟩:=(hG.mt q.t s hs0).row;have cr:=run_range_map (P:=P) w1 q.t kt el (e1.B root) arr clock jJ Wn;obtain ⟨hnb,hnp,cJ⟩:=OQ nX;have di:root≠q.d2:=by intro he;rw [<-he,uZ] at hnb;cases hnb
    have PG:dN w1 (w1.alloc (.mapIter (some (e1.B root)) clock #[] clock)):=by
     refine ⟨by simp,λk hk=>s7 w1 _ k hk,⟨rfl,rfl,rfl,λx=> ?_⟩⟩;by_cases hx:x.block=w1.heap.size
     ·have e1':(w1.alloc (.mapIter (some (e1.B root)) clock #[] clock)).heap[x.block]? =some (.mapIter (some (e1.B root)) clock #[] clock):=by rw [hx];exact iD w1 _
      have e2:w1.heap[x.block]? =none:=by rw [hx];simp
      simp [adY,e1',e2]
     ·exact World.frozen?_alloc_old _ _ _ hx
    rw [List.length_singleton];show wpOps P q.o1 _ [1] a1 w1;rw [wpOps_cons];have wZ:q.o1[1]? =some q.b1:=by rw [<-aaJ,l1];rfl
    refine MR wZ g2 ?_;unfold Oper.wp;have hex:(execOp a1.eval q.b1).run P w1= .ok (.value (.pointer (some ⟨w1.heap.size,0,none⟩))) (w1.alloc (.mapIter (some (e1.B root)) clock #[] clock)):=by simp [execOp,m3,Ss,cr,acZ]
    rw [hex,adM,m4];obtain ⟨e2,ef,h2,xI,hφ2⟩:=dz (v:= .pointer (some ⟨w1.heap.size,0,none⟩)) (s:= .sc .un) (h1.grow PG) (by simp [qK,ah,dc]) nX;have wN:(a1.put (some q.d2) (.pointer (some ⟨w1.heap.size,0,none⟩))).tmps.getD q.d2 undef= .pointer (some ⟨w1.heap.size,0,none⟩):=by rw [Act.Aa (by rw [h1.size];exact cJ),if_pos rfl]
    have hto: ∀t,t≠q.d2->(a1.put (some q.d2) (.pointer (some ⟨w1.heap.size,0,none⟩))).tmps.getD t undef=a1.tmps.getD t undef:=λt ht=>by rw [Act.Aa (by rw [h1.size];exact cJ),if_neg ht]
    generalize a1.put (some q.d2) (.pointer (some ⟨w1.heap.size,0,none⟩))=a2 at h2 wN hto⊢;have TW:(w1.alloc (.mapIter (some (e1.B root)) clock #[] clock)).heap[w1.heap.size]? =some (.mapIter (some (e1.B root)) clock #[] clock):=iD w1 _;have TT:(w1.alloc (.mapIter (some (e1.B root)) clock #[] clock)).heap[e1.B root]? =some (.map arr clock):=by rw [s7 w1 _ _ (aZ Wn)];exact Wn
    have aq3:Z.In w1.heap.size:=h1.cS _ (No _);have t12:Trans Z.In e.φ w e2.φ (w1.alloc (.mapIter (some (e1.B root)) clock #[] clock)):=by rw [hφ2];exact t1.trans (PG.trans h1.cS _)
    have aim:a1.tmps.getD root undef= .map (some (e1.B root)):=by have:=qv.1.1 Ch;rw [this];simp [Ie,mC,hit]
    generalize hbq:e1.B root=bm at *;generalize hiq:w1.heap.size=ib at *;generalize w1.alloc (.mapIter (some bm) clock #[] clock)=w2 at *;clear cr hex PG Wn;show (Code.block q.k (.loop q.body)).wp P Q a2 w2;refine wp_block (wp_loop_rounds (arr.size+1) ?_);generalize hhn:c.wM q.i2=hn at xI;obtain ⟨Zi,e3,e4,pC,Z6,h3,t3,hφ,hk,j1,j2,iy,Tu,Qf⟩:=Ak h2 xI;split at Qf
    ·rename_i s2 es atY agz;cases Mj:s2.st||(!Dz s2.lay [.s]||(s2.b||!bJ Z6.cI q.d2)) with
     |true=>rw [Mj] at Qf;cases Qf
     |false=>
      rw [Mj] at Qf;simp only [cond_false] at Qf;simp only [abC,adb] at Mj;obtain ⟨c1,c2,c3,c4⟩:=Mj;have c2:=Ve c2;obtain ⟨⟨n,ms⟩,hR,hK4⟩:=nj Qf;have hK4:=IQ hK4;obtain ⟨ku,Cn⟩:=QY hR;have hd2:q.d2∈Zi.cI:=by rw [<-j2.uh.defers.2.1];exact (bL _ _).1 c4
      have hTd:Zi.T q.d2= .pointer (some ⟨ib,0,none⟩):=by rw [<-j2.T _ hd2];exact wN
      have hs4:=j2.uh.slot root;rw [agz] at hs4;have aq5:Hj s2=false:=by simp [Hj,c2]
      have hb4:e4.B root=bm:=by have:=hs4.1.1 Ch;rw [hto root di,aim] at this;simp [Ie,mC,aq5] at this;exact this.symm
      have hm4:rP s2 arr clock es:=by obtain ⟨ob,k1,k2⟩:=hs4.2.obj;rw [hb4,TT] at k1;cases k1;obtain ⟨s3,ms3,k3,_,k4⟩:=k2;simp only [ac3,aE.mp.injEq,and_true] at k3;obtain ⟨rfl,rfl⟩:=k3;exact k4
      have hnz: ¬Zi.In bm:=by have:=j2.box root _ agz;rwa [hb4] at this
      have Lc:bm≠ib:=by intro he;rw [he,TW] at TT;cases TT
      have VF: ∀(i:Nat) (x:MapEntry),arr[i]? =some x->x.born=i/\ ∃m,es[i]? =some m/\Zg s2 x m i:=by
       intro i x hx;have hi:i<es.length:=by rw [<-hm4.size];exact (Array.getElem?_eq_some_iff.1 hx).1
       have he:=hm4.ent i x es[i] hx (cV hi);exact ⟨he.1,es[i],cV hi,he⟩
      have hold: ∀x∈arr.toList,x.born<clock:=by
       intro x hx;obtain ⟨i,hi,he⟩:=aaP.1 hx;have Hm:arr[i]? =some x:=by rw [<-aaJ,cV hi,he]
       rw [(VF i x Hm).1,hm4.clock,<-hm4.size];simpa using hi
      have hnd:(arr.toList.map (·.born)).Nodup:=by
       have:arr.toList.map (·.born)=aaU arr.toList.length:=by
        apply acv;intro i;rw [abE];by_cases hi:i<arr.toList.length
        ·rw [cV hi,ac9 hi];have Hm:arr[i]? =some arr.toList[i]:=by rw [<-aaJ,cV hi]
         simp only [adN,(VF i _ Hm).1]
        ·rw [abF (by omega),abF (by simp at hi⊢;omega)];rfl
       rw [this];exact List.nodup_range
      have hzw:(Zi.wd ib).cI=Zi.cI:=rfl;have key: ∀(k:Nat) (φ:Ph) (a:Act) (w:World) (seen:Array Nat),kV c Z (Zi.wd ib) {e4 with φ:=φ} (wg ef Z6) hn a w->kV c (Zi.wd ib) (Zi.wd ib) {e4 with φ:=φ} Z6 hn a w-> Trans Z.In e2.φ w2 φ w->w.heap[ib]? =some (.mapIter (some bm) clock seen clock)->w.heap[bm]? =some (.map arr clock)-> (∀b∈seen.toList,∃m,es[b]? =some m/\aeH c q Z6 m=some (.inl ()))->(leftOf arr seen).size<k->ac6 P q.body (abz q.k Q) k a w:=by
       intro k;induction k with
       |zero=>intro φ a w seen _ _ _ _ _ _ hl;omega
       |succ k ih=>
        intro φ a w seen j1 j2 t0 TW TT agA hl;have ain:=aZ TW;have awT:=aZ TT;have ya:a.tmps.getD q.d2 undef= .pointer (some ⟨ib,0,none⟩):=by rw [j2.T _ hd2];exact hTd
        have leave: ∀(n':Nat) (e6:Env) (st6:St) (a6:Act) (w6:World) (w':World) (vs:List MV),kV c Z (Zi.wd ib) {e4 with φ:=φ} (wg ef Z6) hn a w'->Trans Z.In e2.φ w2 φ w'->ib<w'.heap.size-> b9 c ((Zi.wd ib).cv ib) e6 st6 a6 w6->Trans ((Zi.wd ib).cv ib).In φ w' e6.φ w6->TO st6 [] (hn.ex n') vs->(n',vs)=(n,ms)->abz q.k Q (lU n') a6 w6:=by intro n' e6 st6 a6 w6 w' vs jj tt Ff h6 t6 hT j6;cases j6;have jl:=(jj.amw Ff).later t6 h6.kP h6.defers.1 h6.size h6.defers.2.2.2;obtain ⟨s1,s2,s3⟩:=IL (hn:=hn) (e:=n);obtain ⟨e7,st7,q1,q2,q3⟩:=Bv jl h6 rfl ⟨s1,s2⟩ (s3 Tu) hT hK4;refine C2 (hQ _ e7 st7 a6 w6 q1 ?_ q3);rw [q2];exact t12.trans (tt.trans (t6.sup λb hb=>jj.sub b hb.1))
        rw [rounds_succ];unfold YK.body;refine wp_seq ?_;rcases run_next_at (P:=P) w q.a2.type ib bm clock clock seen arr clock TW TT hold (No _) with ⟨hz,hnx⟩|⟨x,hxm,w1',hw1,hnx⟩
        ·have hD1:aij c q Z6=some (n,ms):=by
          refine Cn λm hm=> ?_;obtain ⟨i,hi,he⟩:=aaP.1 hm;have hia:i<arr.size:=by rw [hm4.size];exact hi
          have Hm:arr[i]? =some arr[i]:=Array.getElem?_eq_getElem hia;have hs:=all_seen arr seen hz arr[i] (by simp);rw [(VF i _ Hm).1] at hs;obtain ⟨m',k1,k2⟩:=agA i (by simpa using hs);rw [cV hi,he] at k1;cases k1;exact k2
         unfold aij at hD1;have hex:(execOp a.eval q.a2).run P w= .ok (.value (.tuple #[.bool false])) w:=by have hv:a.eval (.tmp q.d2)= .pointer (some ⟨ib,0,none⟩):=ya;simp [execOp,m5,hv,hnx,acZ]
         refine DY l2 g3 (fin (s:= .eu [.sc (.p (.b false))]) hex (j2.agy ain) (.refl _ _ _) ⟨?_,trivial⟩ hD1) ?_
         ·simp only [ah];exact ⟨_,rfl,.bool false,_,rfl,B0 _,rfl,rfl⟩
         ·rintro a5 w5 ⟨e5,st5,h5,t5,hK5⟩;try dsimp only at hK5
          refine Ok hG (Jo l2) h5 hK5 t5 ?_;rintro a6 w6 ⟨e6,st6,h6,t6,To⟩;try dsimp only at To
          obtain ⟨hcx,_⟩:=h6.eval q.cx;split at To
          ·rename_i hb;rw [hb] at hcx;obtain ⟨vs,hT,j6⟩:=mJ To;simp only [AI] at j6;rw [hhn] at hT;refine wp_seq (wp_cond_false (Ab hcx) (wp_exit ?_));exact leave (q.kx+2) e6 st6 a6 w6 w vs j1 t0 ain h6 t6 hT j6
          ·cases To
        ·obtain ⟨hxa,hxs⟩:=mem_left hxm;obtain ⟨i,hi,he⟩:=aaP.1 hxa;have Hm:arr[i]? =some x:=by rw [<-aaJ,cV hi,he]
         obtain ⟨B2,m,Tf,aq6⟩:=VF i x Hm;obtain ⟨_,ks,v,rfl,Sv,hxk,hvb,hxv⟩:=aq6;have Wq:=OR Tf;obtain ⟨res,po,Ip⟩: ∃res,aeH c q Z6 (.eu [.agg ks,v])=some res/\(res= .inl ()\/res= .inr (n,ms)):=by
          rcases ku _ Wq with h|h
          ·exact ⟨_,h,.inl rfl⟩
          ·exact ⟨_,h,.inr rfl⟩
         obtain ⟨TX,rfl⟩: ∃TX,ks=[.s TX]:=by
          rw [c2] at Sv;match ks,Sv with
          |[.s l],_=>exact ⟨l,rfl⟩
         obtain ⟨n0,rfl⟩: ∃n0,v= .i .i64 n0:=by
          rw [c3] at hvb;match v,hvb with
          | .i .i64 n0,_=>exact ⟨n0,rfl⟩
         have hxk:x.key= .string ⟨TX.toArray⟩:=by rw [hxk,c1];rfl
         have hxv:x.val= .int .i64 n0:=by rw [hxv,c3];rfl
         have amA:=po;unfold aeH at po;simp only [QW,gT,gC,gA,gN,gS,gI,decide_true,cond_true] at po;have hzi:(Zi.wd ib).In ib:= .inr rfl;have E1:Trans (Zi.wd ib).In φ w φ (sh w1' ib (.mapIter (some bm) clock (seen.push x.born) clock)):=TV hzi hw1 TW (λ_ _ _ h=>by cases h) (λ_ _ _ h=>by cases h);have hh1:w1'.heap=w.heap:=by rcases hw1 with rfl|rfl<;>rfl
         have aeI:(sh w1' ib (.mapIter (some bm) clock (seen.push x.born) clock)).heap[ib]? =some (.mapIter (some bm) clock (seen.push x.born) clock):=by simp [sh,hh1,ain]
         have mn:qy φ (sh w1' ib (.mapIter (some bm) clock (seen.push x.born) clock)):=by
          intro b o u hu;have h0:=j2.uh.kP b o u hu;have aq8:b≠ib:=by
           intro S4;subst S4;have:w.cell? ⟨b,o,none⟩=none:=by simp [World.cell?,TW]
           rw [this] at h0;cases h0
          have je:(sh w1' ib (.mapIter (some bm) clock (seen.push x.born) clock)).heap[b]? =w.heap[b]? :=by simp only [sh,hh1];rw [aau (Ne.symm aq8)]
          rw [World.cell?_of_block je];exact h0
         have aa5:(sh w1' ib (.mapIter (some bm) clock (seen.push x.born) clock)).heap[bm]? =some (.map arr clock):=by simp only [sh,hh1];rw [aau (Ne.symm Lc)];exact TT
         generalize sh w1' ib (.mapIter (some bm) clock (seen.push x.born) clock)=w' at hnx E1 aeI mn aa5;have J1:=j1.later E1 mn j1.uh.defers.1 j1.uh.size j1.T;have J2:=j2.later E1 mn j2.uh.defers.1 j2.uh.size j2.T;have T0:=t0.trans (E1.sup j1.sub);have VG:=aZ aeI;have S:=J2.agy VG;have hex:(execOp a.eval q.a2).run P w= .ok (.value (.tuple #[.bool true,x.key,x.val])) w':=by have hv:a.eval (.tmp q.d2)= .pointer (some ⟨ib,0,none⟩):=ya;simp [execOp,m5,hv,hnx,acZ]
         have kS: ∀ee:Env,ah ee x.key (.sc (.p (.s TX))):=λee=>by have:=Zl (e:=ee) ⟨TX.toArray⟩;rw [hxk];simpa using this
         have vS: ∀ee:Env,ah ee x.val (.sc (.p (.i .i64 n0))):=λee=>by rw [hxv];exact wR _ _
         obtain ⟨e5,st5,h5,hK5,hφ5⟩:=dz (v:= .tuple #[.bool true,x.key,x.val]) (s:= .eu [.sc (.p (.b true)),.sc (.p (.s TX)),.sc (.p (.i .i64 n0))]) S ⟨by simp only [ah];exact ⟨_,rfl,.bool true,_,rfl,B0 _,rfl,x.key,_,rfl,kS _,rfl,x.val,[],rfl,vS _,rfl,rfl⟩,trivial⟩ po;refine DY l2 g3 (nx:=λa5 w5=>a5=a.put q.a2.dst (.tuple #[.bool true,x.key,x.val])/\w5=w') ?_ ?_
         ·unfold Oper.wp;rw [hex,adM];exact ⟨rfl,rfl⟩
         ·rintro a5 w5 ⟨rfl,rfl⟩;refine Ok hG (Jo l2) h5 hK5 (φ0:=φ) (w0:=w5) (by rw [hφ5];exact .refl _ _ _) ?_;rintro a6 w6 ⟨e6,st6,h6,t6,To⟩;try dsimp only at To
          obtain ⟨hcx,_⟩:=h6.eval q.cx;split at To
          ·rename_i hb;rw [hb] at hcx;refine wp_seq (wp_cond_true (Ab hcx) (wp_skip ?_));refine wp_block (wp_seq ?_);have amB: ¬((Zi.wd ib).cv ib).In ib:=λhz=>hz.2 rfl;have amC: ¬((Zi.wd ib).cv ib).In bm:=λhz=>hz.1.elim hnz Lc;have aq9:w6.heap[ib]? =some (.mapIter (some bm) clock (seen.push x.born) clock):=by rw [t6.heap ib amB VG];exact aeI
           have ara:w6.heap[bm]? =some (.map arr clock):=by rw [t6.heap bm amC (aZ aa5)];exact aa5
           have amD:=run_entry_at (P:=P) w6 ib bm clock seen arr clock x aq9 ara hxa hnd;have amE:a6.eval (.tmp q.d2)= .pointer (some ⟨ib,0,none⟩):=by have:=h6.defers.2.2.2 q.d2 hd2;show a6.tmps.getD q.d2 undef=_;rw [this];exact hTd
           have arb:(execOp a6.eval q.a3).run P w6= .ok (.value (.tuple #[x.key,x.val])) w6:=by simp [execOp,m6,amE,amD,acZ]
           refine DY l3 g4 (fin (s:= .eu [.sc (.p (.s TX)),.sc (.p (.i .i64 n0))]) arb h6 (.refl _ _ _) ⟨?_,trivial⟩ To) ?_
           ·simp only [ah];exact ⟨_,rfl,x.key,_,rfl,kS _,rfl,x.val,[],rfl,vS _,rfl,rfl⟩
           ·rintro a7 w7 ⟨e7,st7,h7,t7,hK7⟩;try dsimp only at hK7
            refine Ok hG (Jo l3) h7 hK7 (t6.trans t7) ?_;rintro a8 w8 ⟨e8,st8,h8,t8,hK8⟩;try dsimp only at hK8
            refine vC hG hD q.rest h8 hK8 ?_;intro n' e9 st9 a9 w9 h9 t9 hK9;try dsimp only at hK9
            have t89:=t8.trans t9;cases YI:IT n' 0||IT n' (q.k5+2) with
            |true=>
             rw [YI] at hK9;simp only [cond_true,AI] at hK9;have IU:ac6 P q.body (abz q.k Q) k a9 w9:=by
              have tW:Trans (Zi.wd ib).In φ w5 e9.φ w9:=t89.sup λb hb=>hb.1;refine ih e9.φ a9 w9 (seen.push x.born) (J1.later tW h9.kP h9.defers.1 h9.size h9.defers.2.2.2) (J2.later tW h9.kP h9.defers.1 h9.size h9.defers.2.2.2) (T0.trans (tW.sup j1.sub)) ?_ ?_ ?_ ?_
              ·rw [t89.heap ib amB VG];exact aeI
              ·rw [t89.heap bm amC (aZ aa5)];exact aa5
              ·intro b aeJ;simp only [Array.toList_push,List.mem_append,List.mem_singleton] at aeJ;rcases aeJ with aeJ|rfl
               ·exact agA b aeJ
               ·rw [B2];exact ⟨_,Tf,by rw [amA,<-hK9]⟩
              ·have:=left_shrinks arr seen x hxm;omega
             refine C2 (Q:=Exit.then (ac6 P q.body (abz q.k Q) k) (abz q.k Q)) ?_;have:(bif IT n' (q.k5+2) then 0 else n')=0:=by
              rcases Bool.or_eq_true_iff.1 YI with h|h
              ·have:=BY h;subst this;cases IT 0 (q.k5+2)<;>rfl
              ·rw [h];rfl
             rw [this];exact IU
            |false=>
             rw [YI] at hK9;simp only [cond_false] at hK9;obtain ⟨vs,hT,j6⟩:=mJ hK9;simp only [AI] at j6;rw [hhn] at hT;simp only [abC] at YI;have Yx:n'≠0:=by intro he;rw [he] at YI;simp [eO] at YI
             have arc:(n',vs)=(n,ms):=by
              rcases Ip with h|h
              ·rw [h] at j6;cases j6
              ·rw [h] at j6;cases j6;rfl
             have:=leave n' e9 st9 a9 w9 w5 vs J1 T0 VG h9 t89 hT arc;refine C2 (Q:=Exit.then (ac6 P q.body (abz q.k Q) k) (abz q.k Q)) ?_;rw [YI.2];simp only [cond_false];rw [xa Yx];exact this
          ·cases To
      have hφ4:{e4 with φ:=e4.φ}=e4:=by cases e4;rfl
      refine key (arr.size+1) e4.φ a2 w2 #[] (by rw [hφ4];exact j1.wide aq3 TW) (by rw [hφ4];exact j2.amx TW) (by rw [hφ];exact t3) TW TT (by simp) ?_;have:(leftOf arr #[]).size<=arr.size:=by unfold leftOf;exact Array.size_filter_le
      omega
    ·cases Qf
  ·cases nX
 ·cases nX
end
end Dn
/-
  Functions of the library as table entries. Conditions: none.
-/
namespace Dn
open Go
def jD (size bytes:Nat):List MV->Option MV
 |[.list xs]=>bif pu size xs&&acX (xs.length *bytes) (2^46) then some (.fresh xs) else none
 |_=>none
def pG (bytes:Nat):List MV->Option MV
 |[.fresh xs,.i .i64 i,.fresh ys]=>bif decide (0<=i)&&(acX i.toNat xs.length&&(!ys.isEmpty&&acX ((xs.length+ys.length) *bytes) (2^46))) then some (.fresh (xs.take i.toNat++ys++xs.drop i.toNat)) else none
 |_=>none
theorem rX {size bytes:Nat}{ms:List MV}{r:MV}(h:jD size bytes ms=some r): ∃xs,ms=[.list xs]/\r= .fresh xs/\pu size xs=true/\xs.length *bytes<=2^46:=by
 unfold jD at h;split at h
 ·rename_i xs;cases hb:pu size xs&&acX (xs.length *bytes) (2^46) with
  |false=>simp [hb] at h
  |true=>simp only [hb,cond_true,AI] at h;simp only [acU] at hb;exact ⟨xs,rfl,h.symm,hb.1,aaK hb.2⟩
 ·cases h
theorem DZ {bytes:Nat}{ms:List MV}{r:MV}(h:pG bytes ms=some r): ∃xs ys i,ms=[.fresh xs,.i .i64 ((i:Nat):Int),.fresh ys]/\r= .fresh (xs.take i++ys++xs.drop i)/\i<=xs.length/\ys≠[]/\(xs.length+ys.length) *bytes<=2^46:=by
 unfold pG at h;split at h
 ·rename_i xs i ys;cases hb:decide (0<=i)&&(acX i.toNat xs.length&&(!ys.isEmpty&&acX ((xs.length+ys.length) *bytes) (2^46))) with
  |false=>rw [hb] at h;cases h
  |true=>
   simp only [hb,cond_true,AI] at h;simp only [acU,decide_eq_true_eq,adf] at hb;obtain ⟨h1,h2,h3,h4⟩:=hb;refine ⟨xs,ys,i.toNat,?_,h.symm,aaK h2,?_,aaK h4⟩
   ·rw [Int.toNat_of_nonneg h1]
   ·intro hy;subst hy;simp at h3
 ·cases h
theorem dL.none (P:Program)(c:Ctx):dL P c (λ_ _=>Option.none):=⟨λf ms r h=>by cases h⟩
theorem dL.TY {P:Program}{c:Ctx}{g:Nat->List MV->Option MV}{n:Nat}{F:List MV->Option MV}(h:dL P c g)(xY: ∀f,c.key f=f)(hF: ∀ms r,F ms=some r->j8 P c n ms r):dL P c (bN n F g):=h.add (λf ms r hk hr=>by rw [xY] at hk;rw [hk];exact hF ms r hr)
def yk:Code->List Oper
 | .region _ ops _=>ops.toList
 | .seq x y=>yk x++yk y
 | .cond _ x y=>yk x++yk y
 | .block _ x=>yk x
 | .loop x=>yk x
 |_=>[]
def iZ (fn:Func)(d:Oper)(k:Nat):Oper:=match fn.body with|some c=>(yk c).getD k d|none=>d
def VH (o:Nat->Oper):Code:= .seq (.region 18 #[o 83,o 84,o 85,o 86,o 87] false) (.seq (.region 19 #[o 88,o 89,o 90,o 91,o 92] false) (.seq (.region 20 #[o 93,o 94] false) .ret))
def ja:Oper:={dst:=none,op:= .move (.tmp 0),type:=0,pos:= "",after:= #[],guard:=none}
end Dn
/-
  Reasoning about functions on values. Conditions: none.
-/
namespace Dn
open Go
section
variable {R:Type}
@[simp] theorem awV (x : Bool)(K : Bool -> Option R) : gB (.b x) K = K x := (rfl)
@[simp] theorem awW (k : IntKind)(x : Int)(K : Int -> Option R) : gI k (.i k x) K = K x := by simp [gI]
@[simp] theorem awX (x : List UInt8)(K : List UInt8 -> Option R) : gS (.s x) K = K x := (rfl)
@[simp] theorem awY (x : List MV)(K : List MV -> Option R) : gL (.list x) K = K x := (rfl)
@[simp] theorem awZ (x : pk)(K : pk -> Option R) : gH (.h x) K = K x := (rfl)
@[simp] theorem aw0 (x : List MV)(K : List MV -> Option R) : gA (.agg x) K = K x := (rfl)
@[simp] theorem aw1 (x : List MV)(K : List MV -> Option R) : gT (.eu x) K = K x := (rfl)
@[simp] theorem aw2 (x : List MV)(K : List MV -> Option R) : gF (.fresh x) K = K x := (rfl)
@[simp] theorem at7 (f : Nat)(x : List MV)(K : Nat -> List MV -> Option R) : Yw (.func f x) K = K f x := (rfl)
@[simp] theorem aw3 (f : Nat)(x : List MV)(K : MV -> Option R) : gR (.func f x) K = K (.func f x) := (rfl)
@[simp] theorem aw4 (m : MV)(r : List MV)(K : MV -> List MV -> Option R) : gC (m :: r) K = K m r := (rfl)
@[simp] theorem aw5 (K : Option R) : gN [] K = K := (rfl)
@[simp] theorem au {α : Type}(a : α)(K : α -> Option R) : bd (some a) K = K a := (rfl)
@[simp] theorem aua (a b : Nat) : IT a b = decide (a = b) := eO a b
@[simp] theorem amF (K : Option R) : du true K = K := (rfl)
@[simp] theorem amG (x y : Option R) : bH true x y = x := (rfl)
@[simp] theorem akn (x y : Option R) : bH false x y = y := (rfl)
end
theorem aeK {x:Int}(h1: -9223372036854775808<=x)(h2:x<=9223372036854775807):AT .i64 x=x:=by rw [ac1];omega
theorem aiq {i j:Nat}(h:i+j<2^62):AT .i64 (adP (AT .u64 (AT .i64 ((i:Int)+(j:Int)))) (2^min (ac8 1) (acE .u64)))=(((i+j)/2:Nat):Int):=by
 have h1:AT .i64 ((i:Int)+(j:Int))=((i+j:Nat):Int):=by rw [ac1];omega
 have h2:AT .u64 ((i+j:Nat):Int)=((i+j:Nat):Int):=by
  have:AT .u64 ((i+j:Nat):Int)=((i+j:Nat):Int)%18446744073709551616:=by simp [AT,IntKind.signed,acE]
  rw [this];omega
 have h3:(2:Int)^min (ac8 1) (acE .u64)=2:=by decide
 rw [h1,h2,h3,Int.fdiv_eq_ediv_of_nonneg _ (by omega)];rw [ac1];omega
section
variable {σ R:Type}{body:σ->Option (Sum σ R)}
theorem MU {n:Nat}{s:σ}{r:R}(h:iter body n s=some r): ∀{m:Nat},n<=m->iter body m s=some r:=by
 induction n generalizing s with
 |zero=>cases h
 |succ n ih=>
  intro m hm;obtain ⟨m,rfl⟩: ∃k,m=k+1:=⟨m-1,by omega⟩
  simp only [iter] at h⊢;cases hb:body s with
  |none=>rw [hb] at h;cases h
  |some x=>
   rw [hb] at h;cases x with
   |inl s'=>exact ih h (by omega)
   |inr r'=>exact h
theorem nm {n:Nat}{s:σ}{r:R}(h:iter body n s=some r):Loop body s=some r:=by
 have he: ∃r n,iter body n s=some r:=⟨r,n,h⟩
 unfold Loop;rw [dif_pos he];obtain ⟨m,hm⟩:=ac4 he;have h1:=MU h (Nat.le_max_left n m);have h2:=MU hm (Nat.le_max_right n m);rw [h1] at h2;exact h2.symm
theorem aa6 (I:σ->Prop) (μ:σ->Nat)(Q:R->Prop)(h: ∀s,I s->(∃s',body s=some (.inl s')/\I s'/\μ s'<μ s)\/(∃r,body s=some (.inr r)/\Q r)){s:σ}(hs:I s): ∃r,Loop body s=some r/\Q r:=by
 have key: ∀k s,I s->μ s<k-> ∃r,iter body k s=some r/\Q r:=by
  intro k;induction k with
  |zero=>intro s _ h;omega
  |succ k ih=>
   intro s hs hk;rcases h s hs with ⟨s',e,hi,hm⟩|⟨r,e,hq⟩
   ·obtain ⟨r,e2,hq⟩:=ih s' hi (by omega);exact ⟨r,by simp only [iter,e];exact e2,hq⟩
   ·exact ⟨r,by simp only [iter,e],hq⟩
 obtain ⟨r,e,hq⟩:=key (μ s+1) s hs (by omega);exact ⟨r,nm e,hq⟩
theorem aa7 (S:Nat->σ)(N:Nat)(Q:R->Prop)(P:Nat->Prop)(h0:P 0)(h: ∀k,k<N->P k->(body (S k)=some (.inl (S (k+1)))/\P (k+1))\/(∃r,body (S k)=some (.inr r)/\Q r))(he:P N-> ∃r,body (S N)=some (.inr r)/\Q r): ∃r,Loop body (S 0)=some r/\Q r:=by
 have key: ∀d k,k+d=N->P k-> ∃r,iter body (d+1) (S k)=some r/\Q r:=by
  intro d;induction d with
  |zero=>
   intro k hk hp;have:k=N:=by omega
   subst this;obtain ⟨r,e,hq⟩:=he hp;exact ⟨r,by simp only [iter,e],hq⟩
  |succ d ih=>
   intro k hk hp;rcases h k (by omega) hp with ⟨e,Hn⟩|⟨r,e,hq⟩
   ·obtain ⟨r,e2,hq⟩:=ih (k+1) (by omega) Hn;exact ⟨r,by rw [iter,e];exact e2,hq⟩
   ·exact ⟨r,by rw [iter,e],hq⟩
 obtain ⟨r,e,hq⟩:=key N 0 (by omega) h0;exact ⟨r,nm e,hq⟩
end
end Dn
/-
  From functions on plain values to functions on typed values. Conditions: none.
-/
namespace Dn
open Go
def cy {R:Type}(l:List MV)(K:Nat->Option R):Option R:=K l.length
def ix {α R:Type}(l:List α)(i:Int)(K:α->Option R):Option R:=match (if 0<=i then l[i.toNat]? else none) with|some x=>K x|none=>none
def D5 (l:List UInt8):List Int:=l.map λb=>(b.toNat:Int)
@[simp] theorem BG (l : List UInt8) : PR l = (D5 l).map (MV.i .u8) := by unfold PR D5; rw [List.map_map]; rfl
def qR {α:Type}(bytes:Nat)(l:List α):Option (List α):=if l.length *bytes<=2^46 then some l else none
def BH {α:Type}(bytes:Nat)(xs:List α)(i:Int)(ys:List α):Option (List α):=if 0<=i/\i.toNat<=xs.length/\ys≠[]/\(xs.length+ys.length) *bytes<=2^46 then some (xs.take i.toNat++ys++xs.drop i.toNat) else none
@[reducible] def QZ {α : Type}(f : α -> MV)(l : List α) : MV := .list (l.map f)
@[reducible] def Xu {α : Type}(f : α -> MV)(l : List α) : MV := .fresh (l.map f)
def Sm {A B:Type}(g:B->A)(x:Option A)(y:Option B):Prop:=x=y.map g
section
variable {A B A' B' α:Type}{g:B->A}{T:Option B}
theorem Sm.at {x x':Option A}(e:x=x')(h:Sm g x' T):Sm g x T:=e▸h
theorem aL {l:List MV}{K:List MV->Option A}(h:Sm g (K l) T):Sm g (gA (.agg l) K) T:=h
theorem aM {x:Bool}{K:Bool->Option A}(h:Sm g (K x) T):Sm g (gB (.b x) K) T:=h
theorem eF {x:List UInt8}{K:List UInt8->Option A}(h:Sm g (K x) T):Sm g (gS (.s x) K) T:=h
theorem bg {x:List MV}{K:List MV->Option A}(h:Sm g (K x) T):Sm g (gL (.list x) K) T:=h
theorem nY {x:MV}{outs:List MV}{K:MV->List MV->Option A}(h:Sm g (K x outs) T):Sm g (gW (.ew x outs) K) T:=h
theorem fg {x:List MV}{K:List MV->Option A}(h:Sm g (K x) T):Sm g (gT (.eu x) K) T:=h
theorem qD {x:List MV}{K:List MV->Option A}(h:Sm g (K x) T):Sm g (gF (.fresh x) K) T:=h
theorem Q0 {x:List MV}{K:List MV->Option A}(h:Sm g (K x) T):Sm g (gP (.rp x) K) T:=h
theorem Aw {f:Nat}{x:List MV}{K:Nat->List MV->Option A}(h:Sm g (K f x) T):Sm g (Yw (.func f x) K) T:=h
theorem yl {f:Nat}{x:List MV}{K:MV->Option A}(h:Sm g (K (.func f x)) T):Sm g (gR (.func f x) K) T:=h
theorem aa8 {v:Value}{K:MV->Option A}(h:Sm g (K (.raw v)) T):Sm g (gR (.raw v) K) T:=h
theorem ax {k:IntKind}{n:Int}{K:Int->Option A}(h:Sm g (K n) T):Sm g (gI k (.i k n) K) T:=by simpa using h
theorem al {m:MV}{r:List MV}{K:MV->List MV->Option A}(h:Sm g (K m r) T):Sm g (gC (m::r) K) T:=h
theorem aD {K:Option A}(h:Sm g K T):Sm g (gN [] K) T:=h
theorem ap {x:Option A'}{y:Option B'}{f:B'->A'}{K:A'->Option A} {K':B'->Option B}(h:Sm f x y)(hk: ∀b,Sm g (K (f b)) (K' b)):Sm g (bd x K) (bd y K'):=by
 unfold Sm at h;subst h;cases y with
 |none=>rfl
 |some b=>exact hk b
theorem bh {p:Prop}[Decidable p]{X Y:Option A} {X' Y':Option B}(h1:Sm g X X')(h2:Sm g Y Y'):Sm g (bH (decide p) X Y) (if p then X' else Y'):=by by_cases h:p<;>simpa [h] using (by assumption)
theorem aH {c:Bool}{X Y:Option A} {X' Y':Option B}(h1:Sm g X X')(h2:Sm g Y Y'):Sm g (bH c X Y) (if c then X' else Y'):=by cases c<;>simpa using (by assumption)
theorem eL {p:Prop}[Decidable p]{X:Option A} {X':Option B}(h1:Sm g X X'):Sm g (du (decide p) X) (if p then X' else none):=by
 by_cases h:p
 ·simpa [h] using h1
 ·simp [h,du,Sm]
theorem VI {c:Bool}{X:Option A} {X':Option B}(h1:Sm g X X'):Sm g (du c X) (if c then X' else none):=by
 cases c
 ·simp [du,Sm]
 ·simpa using h1
theorem bO {c:Bool}{X:Option A}(hc:c=true)(h:Sm g X T):Sm g (du c X) T:=by subst hc;exact h
theorem oQ {c:Bool}{X Y:Option A}(hc:c=true)(h:Sm g X T):Sm g (bH c X Y) T:=by subst hc;exact h
theorem oR {c:Bool}{X Y:Option A}(hc:c=false)(h:Sm g Y T):Sm g (bH c X Y) T:=by subst hc;exact h
theorem ym {l:List MV}{n:Nat}{K:Nat->Option A}(e:l.length=n)(h:Sm g (K n) T):Sm g (cy l K) T:=by subst e;exact h
theorem bW {l:List MV}{M:List α}{f:α->MV}{i:Int}{K:MV->Option A} {K':α->Option B}(e:l=M.map f)(h: ∀y,Sm g (K (f y)) (K' y)):Sm g (idx l i K) (ix M i K'):=by
 subst e;unfold idx Sz ix;by_cases hi:0<=i
 ·simp only [hi,if_true,abE];cases M[i.toNat]? with
  |none=>rfl
  |some y=>exact h y
 ·simp only [hi,if_false];rfl
theorem D6 {R:Type}{a b x:Option R}(h1:a=x)(h2:b=x):both a b=x:=by subst h1;subst h2;unfold both;rw [if_pos rfl]
theorem Jq {X Y:Option A}{T:Option B}(e:Y=X)(h:Sm g X T):Sm g Y T:=by rw [e];exact h
theorem HR {C:Type}{x:Option C}{K:C->Option A} {K':C->Option B}(h: ∀b,Sm g (K b) (K' b)):Sm g (bd x K) (bd x K'):=by
 cases x with
 |none=>rfl
 |some b=>exact h b
theorem OS {a b:Nat}{K:Nat->Nat->Option A}(h:Sm g (K a b) T):Sm g (gCx (.raw (.complex .f64 a b)) K) T:=h
def Q1 {R:Type}(l:List Int)(K:List UInt8->Option R):Option R:=if l.all isByte then K (l.map λn=>UInt8.ofNat n.toNat) else none
theorem aa9 {R:Type}{M:List Int}: ∀{K:List UInt8->Option R},NK (M.map (MV.i .u8)) K=Q1 M K:=by
 induction M with
 |nil=>intro K;rfl
 |cons n M ih=>intro K;simp only [ad9,NK,byK,gI,decide_true,cond_true,ih];cases h:isByte n<;>simp [du,Q1,h]
theorem air {l:List MV}{M:List Int}{K:List UInt8->Option A} {K':List UInt8->Option B}(e:l=M.map (MV.i .u8))(h: ∀b,Sm g (K b) (K' b)):Sm g (NK l K) (Q1 M K'):=by
 subst e;rw [aa9];unfold Q1;split
 ·exact h _
 ·rfl
theorem jM {d:A}{a:B}(e:d=g a):Sm g (some d) (some a):=by subst e;rfl
theorem yn {n:Nat}{l:List MV}{M:List α}{f:α->MV}(e:l=M.map f)(h: ∀x,(f x).w=n):pu n l=true:=by subst e;unfold pu;rw [List.all_map,adg];intro x _;simp [h x]
theorem Q2 {σ σ' ρ ρ':Type}{e:σ'->σ}{f:ρ'->ρ}{K:σ->Option (Sum σ ρ)} {K':σ'->Option (Sum σ' ρ')}(h: ∀s,Sm (Sum.map e f) (K (e s)) (K' s))(n:Nat)(s:σ'):iter K n (e s)=(iter K' n s).map f:=by
 induction n generalizing s with
 |zero=>rfl
 |succ n ih=>
  have:=h s;unfold Sm at this;simp only [iter,this];cases K' s with
  |none=>rfl
  |some x=>cases x with
   |inl s'=>exact ih s'
   |inr r=>rfl
theorem MW {σ ρ:Type}{K:σ->Option (Sum σ ρ)}{s:σ}(h: ∀n,iter K n s=none):Loop K s=none:=by unfold Loop;rw [dif_neg];rintro ⟨r,n,e⟩;rw [h] at e;cases e
theorem dM {σ σ' ρ ρ':Type}{K:σ->Option (Sum σ ρ)} {K':σ'->Option (Sum σ' ρ')}{d0:σ}{s0:σ'}(e:σ'->σ)(f:ρ'->ρ)(e0:d0=e s0)(h: ∀s,Sm (Sum.map e f) (K (e s)) (K' s)):Sm f (Loop K d0) (Loop K' s0):=by
 subst e0;unfold Sm;by_cases hx: ∃r n,iter K' n s0=some r
 ·obtain ⟨r,n,hn⟩:=hx;rw [nm hn];have:iter K n (e s0)=some (f r):=by rw [Q2 h,hn];rfl
  rw [nm this];rfl
 ·have h1: ∀n,iter K' n s0=none:=λn=>by
   cases hn:iter K' n s0 with
   |none=>rfl
   |some r=>exact absurd ⟨r,n,hn⟩ hx
  rw [MW h1,MW λn=>by rw [Q2 h,h1];rfl];rfl
theorem yo {size bytes:Nat}{f:α->MV}(hw: ∀x,(f x).w=size)(l:List α):Sm (Xu f) (jD size bytes [.list (l.map f)]) (qR bytes l):=by
 unfold Sm jD qR;simp only [yn (rfl:l.map f=l.map f) hw,Bool.true_and,acV];by_cases h:l.length *bytes<=2^46
 ·rw [show acX (l.length *bytes) (2^46)=true from acT h,if_pos h];rfl
 ·rw [show acX (l.length *bytes) (2^46)=false from by rw [acN];intro hb;exact h (aaK hb),if_neg h];rfl
theorem Q3 {bytes:Nat}{f:α->MV}(xs:List α)(i:Int)(ys:List α):Sm (Xu f) (pG bytes [.fresh (xs.map f),.i .i64 i,.fresh (ys.map f)]) (BH bytes xs i ys):=by
 unfold Sm pG BH;simp only [acV];have hb: ∀a b:Nat,acX a b=decide (a<=b):=λa b=>by
  by_cases h:a<=b
  ·rw [acT h,decide_eq_true h]
  ·rw [decide_eq_false h,acN];intro hh;exact h (aaK hh)
 rw [hb,hb];have he:(ys.map f).isEmpty=decide (ys=[]):=by cases ys<;>simp
 rw [he];by_cases h1:0<=i<;>by_cases h2:i.toNat<=xs.length<;>by_cases h3:ys=[]<;>by_cases h4:(xs.length+ys.length) *bytes<=2^46<;>simp [h1,h2,h3,h4,Xu]
end
abbrev ais (f:Option MV):List MV->Option MV|[]=>f|_=>none
abbrev qS (f:MV->Option MV):List MV->Option MV|[a]=>f a|_=>none
abbrev jN (f:MV->MV->Option MV):List MV->Option MV|[a,b]=>f a b|_=>none
abbrev D7 (f:MV->MV->MV->Option MV):List MV->Option MV|[a,b,c]=>f a b c|_=>none
abbrev TZ (f:MV->MV->MV->MV->Option MV):List MV->Option MV|[a,b,c,d]=>f a b c d|_=>none
theorem aeL {f:Option MV}{B:List MV->Option MV}(h:B []=f){ms:List MV}{r:MV}(e:ais f ms=some r):B ms=some r:=by
 unfold ais at e;split at e
 ·rw [h];exact e
 ·cases e
theorem eP {f:MV->Option MV}{B:List MV->Option MV}(h: ∀a,B [a]=f a){ms:List MV}{r:MV}(e:qS f ms=some r):B ms=some r:=by
 unfold qS at e;split at e
 ·rw [h];exact e
 ·cases e
theorem cf {f:MV->MV->Option MV}{B:List MV->Option MV}(h: ∀a b,B [a,b]=f a b){ms:List MV}{r:MV}(e:jN f ms=some r):B ms=some r:=by
 unfold jN at e;split at e
 ·rw [h];exact e
 ·cases e
theorem ot {f:MV->MV->MV->Option MV}{B:List MV->Option MV}(h: ∀a b c,B [a,b,c]=f a b c){ms:List MV}{r:MV}(e:D7 f ms=some r):B ms=some r:=by
 unfold D7 at e;split at e
 ·rw [h];exact e
 ·cases e
theorem D8 {f:MV->MV->MV->MV->Option MV}{B:List MV->Option MV}(h: ∀a b c d,B [a,b,c,d]=f a b c d){ms:List MV}{r:MV}(e:TZ f ms=some r):B ms=some r:=by
 unfold TZ at e;split at e
 ·rw [h];exact e
 ·cases e
theorem dL.fn {P:Program} {c c':Ctx}{g:Nat->List MV->Option MV}{n:Nat}{fn:Func}{dJ:List (List Kd)}{F:List MV->Option MV}(h:dL P c g)(hl:Ap c c')(YJ:c'.g=g)(nV:kq P c.ti)(j6:NU P c.ti)(Ij: ∀t k,c.fk t=some k->P.underlying t=some (.float k))(PL:xZ P c)(Hr:P.follows .mixedOrders=true)(DV:sF P c)(hf:P.funcs[n]? =some fn)(hh:Co c' n fn dJ=true)(xY: ∀f,c.key f=f){fresh:Option Nat}(Fi:C1 c' n fn fresh=true)(hF: ∀{ms r},F ms=some r->Md c' dJ fresh fn ms=some r):dL P c (bN n F g):=by have hb:=dL.body h hl YJ nV j6 Ij PL Hr DV hf hh xY Fi;refine h.add (λf ms r hk hr=> ?_);refine hb.all f ms r ?_;unfold bN;rw [hk];simp [hF hr]
end Dn
/-
  A function's body in which a map is gone through, or a label stands. Conditions: none.
-/
namespace Dn
open Go
section
variable {P:Program}{c:Ctx}{R:Type}{r:R}
theorem T3 {a b:Code}{l:Nat}(h:aa4 a b=some l):a= .goto l/\b= .skip:=by
 unfold aa4 at h;split at h
 ·cases h;exact ⟨rfl,rfl⟩
 ·cases h
theorem aba (hG:Good P c)(hD:IR P c){l:Nat}{G:St->Option R}: ∀(code:Code) {Z:bI} {e:Env} {st:St} {a:Act} {w:World} {K:Nat->St->Option R} {Q:Exit->Act->World->Prop},b9 c Z e st a w->Jn c l G code st K=some r-> (∀n e' bZ a' w',b9 c Z e' bZ a' w'->Trans Z.In e.φ w e'.φ w'->K n bZ=some r->Q (lU n) a' w')-> (∀e' bZ a' w',b9 c Z e' bZ a' w'->Trans Z.In e.φ w e'.φ w'->G bZ=some r->Q (.goto l) a' w')->code.wp P Q a w:=by
 intro code;induction code with
 |seq x y ihx ihy=>
  intro Z e st a w K Q h hK hQ hJ;simp only [Jn] at hK;refine wp_seq (ihx h hK ?_ ?_)
  ·intro n e1 cR a1 w1 h1 t1 nX;by_cases hn:n=0
   ·subst hn;exact ihy h1 nX (λn e2 ef a2 w2 h2 t2 xI=>hQ n e2 ef a2 w2 h2 (t1.trans t2) xI) (λe2 ef a2 w2 h2 t2 xI=>hJ e2 ef a2 w2 h2 (t1.trans t2) xI)
   ·rw [xa hn];have:IT n 0=false:=by rw [eO];simp [hn]
    simp only [this,cond_false] at nX;exact hQ n e1 cR a1 w1 h1 t1 nX
  ·intro e1 cR a1 w1 h1 t1 nX;exact hJ e1 cR a1 w1 h1 t1 nX
 |cond x y z _ _=>
  intro Z e st a w K Q h hK hQ hJ;simp only [Jn] at hK;split at hK
  ·rename_i l' hg;obtain ⟨rfl,rfl⟩:=T3 hg;cases hb:IT l' l with
   |false=>rw [hb] at hK;cases hK
   |true=>
    rw [hb] at hK;simp only [cond_true] at hK;have hb:=BY hb;subst hb;obtain ⟨hx,_⟩:=h.eval x;split at hK
    ·rename_i v hv;rw [hv] at hx;refine wp_cond (Ab hx) ?_;cases v with
     |true=>exact wp_goto (hJ e st a w h (.refl _ _ _) hK)
     |false=>exact wp_skip (hQ 0 e st a w h (.refl _ _ _) hK)
    ·cases hK
  ·exact vC hG hD _ h hK hQ
 |label l'=>intro Z e st a w K Q h hK hQ hJ;exact wp_label (hQ 0 e st a w h (.refl _ _ _) hK)
 |_=>intro Z e st a w K Q h hK hQ hJ;simp only [Jn] at hK;exact vC hG hD _ h hK hQ
theorem abb (hG:Good P c)(hD:IR P c): ∀(code:Code) {Z:bI} {e:Env} {st:St} {a:Act} {w:World} {K:Nat->St->Option R} {Q:Exit->Act->World->Prop},b9 c Z e st a w->GG c code st K=some r-> (∀n e' bZ a' w',b9 c Z e' bZ a' w'->Trans Z.In e.φ w e'.φ w'->K n bZ=some r->Q (lU n) a' w')->code.wp P Q a w:=by
 intro code;induction code with
 |seq x y _ ihy=>
  intro Z e st a w K Q h hK hQ;simp only [GG] at hK;have nxt: ∀n e1 cR a1 w1,b9 c Z e1 cR a1 w1->Trans Z.In e.φ w e1.φ w1->(bif IT n 0 then GG c y cR K else K n cR)=some r->Exit.then (y.wp P Q) Q (lU n) a1 w1:=by
   intro n e1 cR a1 w1 h1 t1 nX;by_cases hn:n=0
   ·subst hn;exact ihy h1 nX (λn e2 ef a2 w2 h2 t2 xI=>hQ n e2 ef a2 w2 h2 (t1.trans t2) xI)
   ·rw [xa hn];have:IT n 0=false:=by rw [eO];simp [hn]
    simp only [this,cond_false] at nX;exact hQ n e1 cR a1 w1 h1 t1 nX
  split at hK
  ·rename_i q hq;exact wp_seq (ail hG hD hq h hK nxt)
  ·exact wp_seq (vC hG hD _ h hK nxt)
 |scope b _=>
  intro Z e st a w K Q h hK hQ;simp only [GG] at hK;split at hK
  ·rename_i rest hf;have hx: ∀(J:Act->World->Prop) n (a':Act) (w':World),Q (lU n) a' w'->Exit.jump 0 J Q (lU n) a' w':=by
    intro J n a' w' hq;match n,hq with
    |0,hq=>exact hq
    |1,hq=>exact hq
    |n+2,hq=>exact hq
   refine wp_scope_jumps 0 (λa' w'=> ∃e' bZ,b9 c Z e' bZ a' w'/\Trans Z.In e.φ w e'.φ w'/\lr c rest R bZ K=some r) (λ_ _=>0) hf ?_ ?_
   ·refine aba hG hD b h hK (λn e' bZ a' w' h' t' hK'=>hx _ n a' w' (hQ n e' bZ a' w' h' t' hK')) ?_;intro e' bZ a' w' h' t' hK';exact ⟨rfl,e',bZ,h',t',hK'⟩
   ·rintro a1 w1 ⟨e1,cR,h1,t1,nX⟩;refine vC hG hD rest h1 nX ?_;intro n e' bZ a' w' h' t' hK';exact hx _ n a' w' (hQ n e' bZ a' w' h' (t1.trans t') hK')
  ·cases hK
 |_=>intro Z e st a w K Q h hK hQ;simp only [GG] at hK;exact vC hG hD _ h hK hQ
end
theorem dL.QX {P:Program} {c c':Ctx}{g:Nat->List MV->Option MV}{n:Nat}{fn:Func}{dJ:List (List Kd)}(h:dL P c g)(hl:Ap c c')(YJ:c'.g=g)(nV:kq P c.ti)(j6:NU P c.ti)(Ij: ∀t k,c.fk t=some k->P.underlying t=some (.float k))(PL:xZ P c)(Hr:P.follows .mixedOrders=true)(DV:sF P c)(hf:P.funcs[n]? =some fn)(hh:Co c' n fn dJ=true)(xY: ∀f,c.key f=f){fresh:Option Nat}(Fi:C1 c' n fn fresh=true):dL P c (bN n (Dn.QX c' dJ fresh fn) g):=by
 have hG:Good P c':=by
  refine ⟨by rw [hl.ti];exact nV,by rw [hl.ti];exact j6,λf ms r hr=> ?_,by rw [hl.fk];exact Ij,λt s hs=>PL t s ?_⟩
  ·rw [YJ,hl.key] at hr;exact (h.all f ms r hr).lv hl
  ·rw [<-hs];unfold we Ctx.tv;rw [hl.mt,hl.ti]
 refine h.add (λf ms r hk hr=> ?_);rw [xY] at hk;subst hk;simp only [Co,acU,adf] at hh;obtain ⟨⟨⟨h1,h2⟩,h3⟩,h4⟩:=hh;have hD:=Jc hG Hr (DV.lv hl);exact (Qx (λb {r Z e st a w K Q} h hK hQ=>abb hG hD b h hK hQ) hG hf h1 (BY h2) (aaK h3) (by rw [hl.key,xY];exact h4) (by rw [hl.key,xY];exact MF Fi) hr).lv hl.symm
theorem dL.fnX {P:Program} {c c':Ctx}{g:Nat->List MV->Option MV}{n:Nat}{fn:Func}{dJ:List (List Kd)}{F:List MV->Option MV}(h:dL P c g)(hl:Ap c c')(YJ:c'.g=g)(nV:kq P c.ti)(j6:NU P c.ti)(Ij: ∀t k,c.fk t=some k->P.underlying t=some (.float k))(PL:xZ P c)(Hr:P.follows .mixedOrders=true)(DV:sF P c)(hf:P.funcs[n]? =some fn)(hh:Co c' n fn dJ=true)(xY: ∀f,c.key f=f){fresh:Option Nat}(Fi:C1 c' n fn fresh=true)(hF: ∀{ms r},F ms=some r->Dn.QX c' dJ fresh fn ms=some r):dL P c (bN n F g):=by have hb:=dL.QX h hl YJ nV j6 Ij PL Hr DV hf hh xY Fi;refine h.add (λf ms r hk hr=> ?_);refine hb.all f ms r ?_;unfold bN;rw [hk];simp [hF hr]
theorem abc {α ρ ρ':Type}{e:α->MV}{f:ρ'->ρ}{K:MV->Option (Sum Unit ρ)} {K':α->Option (Sum Unit ρ')}{d:Option ρ} {d':Option ρ'}{l:List MV}{M:List α}(hl:l=M.map e)(hd:Sm f d d')(h: ∀x,Sm (Sum.map id f) (K (e x)) (K' x)): Sm f (um K d l) (um K' d' M):=by
 subst hl;have hg: ∀x,yj (K (e x))=yj (K' x):=by
  intro x;rw [h x];cases K' x with
  |none=>rfl
  |some y=>cases y<;>rfl
 unfold Sm;induction M with
 |nil=>exact hd
 |cons x M ih=>
  have hx:=h x;unfold Sm at hx;simp only [ad9,um,hx];cases hk:K' x with
  |none=>rfl
  |some y=>
   cases y with
   |inl u=>exact ih
   |inr r=>
    simp only [adN,Sum.map_inr,List.all_map];have:(M.all ((λy=>yj (K y))∘e))=M.all λy=>yj (K' y):=by congr 1;funext y;exact hg y
    rw [this];cases M.all λy=>yj (K' y)<;>rfl
theorem ait {A B:Type}{g:B->A}{m:MV}{K:List UInt8->Int->Option A} {K':List UInt8->Int->Option B}(h: ∀key n,Sm g (K key n) (K' key n)):Sm g (QW m K) (QW m K'):=by
 have hN: ∀{l:List MV} {X:Option A} {X':Option B},Sm g X X'->Sm g (gN l X) (gN l X'):=by intro l X X' h;cases l<;>first|exact h|rfl
 have hC: ∀{l:List MV} {X:MV->List MV->Option A} {X':MV->List MV->Option B},(∀a b,Sm g (X a b) (X' a b))->Sm g (gC l X) (gC l X'):=by intro l X X' h;cases l<;>first|exact h _ _|rfl
 unfold QW;cases m<;>first|rfl|skip
 refine hC λka r=> ?_;cases ka<;>first|rfl|skip
 refine hC λk0 kr=>hN ?_;cases k0<;>first|rfl|skip
 refine hC λv0 vr=>hN ?_;cases v0<;>first|rfl|skip
 rename_i k n;simp only [gI];cases decide (k=IntKind.i64)<;>first|rfl|exact h _ _
theorem VJ {A B:Type}{g:B->A}{p q:Prop}[Decidable p][Decidable q]{X:Option A} {X':Option B}(e:p↔q)(h1:Sm g X X'):Sm g (du (decide p) X) (if q then X' else none):=by
 by_cases hp:p
 ·rw [if_pos (e.1 hp),decide_eq_true hp];exact h1
 ·rw [if_neg (λh=>hp (e.2 h)),decide_eq_false hp];rfl
theorem T4 {A B:Type}{g:B->A}{T:Option B}{x:List MV}{K:List MV->Option A}(h:Sm g (K x) T):Sm g (gCl (.clip x) K) T:=h
@[reducible] def agB {α : Type}(f : α -> MV)(l : List α) : MV := .clip (l.map f)
end Dn
/-
  Reasoning about functions on typed values. Conditions: none.
-/
namespace Dn
open Go
section
variable {α R:Type}
theorem bB {l:List α}{k:Nat}(h:k<l.length)(K:α->Option R):ix l (k:Int) K=K l[k]:=by simp [ix,h]
theorem ab2 {l:List α}{i:Int}(h0:0<=i)(h:i.toNat<l.length)(K:α->Option R):ix l i K=K l[i.toNat]:=by simp [ix,h,h0]
theorem yM {l:List α}(h:0<l.length)(K:α->Option R):ix l 0 K=K l[0]:=by simp [ix,h]
theorem anJ {A:Type}(c:Prop)[Decidable c](x y:Option A)(K:A->Option R):bd (if c then x else y) K=if c then bd x K else bd y K:=by split<;>rfl
@[simp] theorem ab3 {A : Type}(x : Option A) : bd x (λa => some a) = x := by cases x <;> rfl
end
def aK {A:Type}(x:Option A)(Q:A->Prop):Prop:= ∃a,x=some a/\Q a
section
variable {A B α σ ρ:Type}
theorem aK.mk {a:A}{Q:A->Prop}(h:Q a):aK (some a) Q:=⟨a,rfl,h⟩
theorem aK.of {x:Option A}{a:A}{Q:A->Prop}(e:x=some a)(h:Q a):aK x Q:=⟨a,e,h⟩
theorem aK.bd {x:Option A}{K:A->Option B}{P:A->Prop}{Q:B->Prop}(h:aK x P)(hk: ∀a,P a->aK (K a) Q):aK (bd x K) Q:=by obtain ⟨a,rfl,hp⟩:=h;exact hk a hp
theorem aK.ite {c:Prop}[Decidable c]{x y:Option A}{Q:A->Prop}(h1:c->aK x Q)(h2: ¬c->aK y Q):aK (if c then x else y) Q:=by
 split
 ·exact h1 ‹_›
 ·exact h2 ‹_›
theorem aK.imp {x:Option A}{P Q:A->Prop}(h:aK x P)(Tr: ∀a,P a->Q a):aK x Q:=by obtain ⟨a,e,hp⟩:=h;exact ⟨a,e,Tr a hp⟩
theorem aK.ix {l:List α}{k:Nat}{K:α->Option A}{Q:A->Prop}(h:k<l.length)(hk:aK (K l[k]) Q):aK (ix l (k:Int) K) Q:=by rw [bB h];exact hk
theorem aK.eq {x:Option A}{a:A}(h:aK x (· =a)):x=some a:=by obtain ⟨b,e,rfl⟩:=h;exact e
variable {body:σ->Option (Sum σ ρ)}
theorem aK.loop (I:σ->Prop) (μ:σ->Nat){Q:ρ->Prop}{s:σ}(hs:I s)(h: ∀s,I s->aK (body s) λx=>match x with| .inl s'=>I s'/\μ s'<μ s| .inr r=>Q r):aK (Loop body s) Q:=by
 refine aa6 I μ Q (λs hs=> ?_) hs;obtain ⟨x,e,hx⟩:=h s hs;cases x with
 |inl s'=>exact .inl ⟨s',e,hx⟩
 |inr r=>exact .inr ⟨r,e,hx⟩
theorem aK.count (S:Nat->σ)(n:Nat){Q:ρ->Prop}(P:Nat->Prop){s:σ}(e:s=S 0)(h0:P 0)(h: ∀k,k<n->P k->aK (body (S k)) λx=>match x with| .inl s'=>s'=S (k+1)/\P (k+1)| .inr r=>Q r)(he:P n->aK (body (S n)) λx=>match x with| .inl _=>False| .inr r=>Q r):aK (Loop body s) Q:=by
 subst e;refine aa7 S n Q P h0 (λk hk hp=> ?_) (λhp=> ?_)
 ·obtain ⟨x,e,hx⟩:=h k hk hp;cases x with
  |inl s'=>obtain ⟨rfl,hx⟩:=hx;exact .inl ⟨e,hx⟩
  |inr r=>exact .inr ⟨r,e,hx⟩
 ·obtain ⟨x,e,hx⟩:=he hp;cases x with
  |inl s'=>exact hx.elim
  |inr r=>exact ⟨r,e,hx⟩
end
theorem wrap64 {x:Int}(h1: -9223372036854775808<=x)(h2:x<=9223372036854775807):AT .i64 x=x:=aeK h1 h2
end Dn
/-
  Functions of the library, on typed values. Conditions: none.
-/
namespace Dn
open Go
def Pb (x y:Int):Int:=if x<y then-1 else if y<x then 1 else 0
def qH {α:Type}(key:α->Int)(L:List α)(s:Int):Nat:=L.countP (λe=>decide (key e<s))
def nR {α:Type}(key:α->Int)(L:List α)(s:Int):Bool:=L.any λe=>decide (key e=s)
def oh {α:Type}(key:α->Int)(L:List α):Prop:=L.Pairwise λa b=>key a<key b
section
variable {α τ:Type}{key:α->Int}
theorem ajc {L:List α}{s:Int}{p:Nat}(hp:p<=L.length)(h1: ∀k (hk:k<L.length),k<p->key L[k]<s)(h2: ∀k (hk:k<L.length),p<=k->s<=key L[k]):qH key L s=p:=by
 have h3:(L.take p).countP (λe=>decide (key e<s))=(L.take p).length:=by
  rw [List.countP_eq_length];intro a ha;obtain ⟨k,hk,rfl⟩:=aaP.1 ha;have PH:k<p:=by rw [adl] at hk;omega
  rw [List.getElem_take];exact decide_eq_true (h1 k (by omega) PH)
 have h4:(L.drop p).countP (λe=>decide (key e<s))=0:=by rw [List.countP_eq_zero];intro a ha;obtain ⟨k,hk,rfl⟩:=aaP.1 ha;rw [List.length_drop] at hk;rw [List.getElem_drop];have:=h2 (p+k) (by omega) (by omega);simp;omega
 have h5:qH key L s=(L.take p++L.drop p).countP (λe=>decide (key e<s)):=by rw [List.take_append_drop];rfl
 rw [h5,List.countP_append,h3,h4,adl];omega
theorem oh.lt {L:List α}(hs:oh key L){i j:Nat}(hj:j<L.length)(h:i<j):key (L[i]'(by omega))<key L[j]:=List.pairwise_iff_getElem.1 hs i j (by omega) hj h
theorem oh.le {L:List α}(hs:oh key L){i j:Nat}(hj:j<L.length)(h:i<=j):key (L[i]'(by omega))<=key L[j]:=by
 rcases Nat.lt_or_eq_of_le h with h|h
 ·exact Int.le_of_lt (hs.lt hj h)
 ·subst h;exact Int.le_refl _
theorem A6 (L:List α)(s:Int):qH key L s<=L.length:=List.countP_le_length
theorem oh.lb {L:List α}(hs:oh key L)(s:Int):(∀k (hk:k<L.length),k<qH key L s->key L[k]<s)/\(∀k (hk:k<L.length),qH key L s<=k->s<=key L[k]):=by
 have: ∃p,p<=L.length/\(∀k (hk:k<L.length),k<p->key L[k]<s)/\(∀k (hk:k<L.length),p<=k->s<=key L[k]):=by
  induction L with
  |nil=>exact ⟨0,No _,λk hk=>by simp at hk,λk hk=>by simp at hk⟩
  |cons a l ih=>
   have zb:=List.pairwise_cons.1 hs;by_cases ha:key a<s
   ·obtain ⟨p,h1,h2,h3⟩:=ih zb.2;refine ⟨p+1,by simp;omega,λk hk hkp=> ?_,λk hk hkp=> ?_⟩
    ·cases k with
     |zero=>exact ha
     |succ k=>exact h2 k (by simpa using hk) (by omega)
    ·cases k with
     |zero=>omega
     |succ k=>exact h3 k (by simpa using hk) (by omega)
   ·refine ⟨0,aeb _,λk hk hkp=>by omega,λk hk _=> ?_⟩;cases k with
    |zero=>simp;omega
    |succ k=>have:=zb.1 (l[k]'(by simpa using hk)) (adr _);simp only [List.getElem_cons_succ];omega
 obtain ⟨p,h1,h2,h3⟩:=this;rw [ajc h1 h2 h3];exact ⟨h2,h3⟩
theorem oh.has {L:List α}(hs:oh key L)(s:Int):nR key L s=true↔ ∃h:qH key L s<L.length,key L[qH key L s]=s:=by
 obtain ⟨h1,h2⟩:=hs.lb s;unfold nR;rw [List.any_eq_true];constructor
 ·rintro ⟨x,hx,he⟩;obtain ⟨k,hk,rfl⟩:=aaP.1 hx;have he:key L[k]=s:=by simpa using he
  have Wy:qH key L s<=k:=by refine Nat.le_of_not_lt λcJ=> ?_;have:=h1 k hk cJ;omega
  have hl:qH key L s<L.length:=by omega
  refine ⟨hl,?_⟩;have:=h2 _ hl (No _);have:=hs.le hk Wy;omega
 ·rintro ⟨h,he⟩;exact ⟨_,adr h,decide_eq_true he⟩
theorem xB {L:List α}{s:Int}:nR key L s=true↔ ∃x∈L,key x=s:=by simp [nR]
noncomputable def bsL (x:List α)(target:τ)(cmp:α->τ->Option Int)(st:Int×Int):Option ((Int×Int)⊕Int):=if st.1<st.2 then
 if (0:Int)<=1 then
 ix x (AT .i64 (adP (AT .u64 (AT .i64 (st.1+st.2))) (2^min (ac8 1) (acE .u64)))) λy=>
 bd (cmp y target) λrA=>
 bd (if rA<0 then
  some (AT .i64 ((AT .i64 (adP (AT .u64 (AT .i64 (st.1+st.2))) (2^min (ac8 1) (acE .u64))))+1),st.2)
  else
  some (st.1,AT .i64 (adP (AT .u64 (AT .i64 (st.1+st.2))) (2^min (ac8 1) (acE .u64)))):Option (Int×Int)) λw1=>
 some (.inl (w1.1,w1.2))
 else none
 else
 some (.inr st.1)
noncomputable def bsearch (x:List α)(target:τ)(cmp:α->τ->Option Int):Option (Int×Bool):=bd (Loop (bsL x target cmp) (0,(x.length:Int))) λw=>
 bd (if w<(x.length:Int) then
  ix x w λy1=>
  bd (cmp y1 target) λbu=>
  some (w,decide (bu=0))
  else
  some (w,false):Option (Int×Bool)) λw2=>
 some (w2.1,w2.2)
theorem Kx {L:List α}{s:Int}{cmp:α->Int->Option Int}(hs:oh key L)(hl:L.length<2^60)(hc: ∀a,cmp a s=some (Pb (key a) s)):bsearch L s cmp=some ((qH key L s:Int),nR key L s):=by
 obtain ⟨u6,qx⟩:=hs.lb s;have hle:=A6 (key:=key) L s;have Ky:Loop (bsL L s cmp) (0,(L.length:Int))=some (qH key L s:Int):=by
  refine aK.eq (aK.loop (λst=> ∃i j:Nat,st=((i:Int),(j:Int))/\i<=qH key L s/\qH key L s<=j/\j<=L.length) (λst=>(st.2-st.1).toNat) ⟨0,L.length,rfl,aeb _,hle,No _⟩ ?_);rintro st ⟨i,j,rfl,hi,hj,Gi⟩;unfold bsL;by_cases cJ:i<j
  ·have hm:(i+j)/2<L.length:=by omega
   simp only [show ((i:Int)<(j:Int)) by omega,if_true,show ((0:Int)<=1) by decide,aiq (by omega:i+j<2^62),bB hm,hc,au];by_cases hlb:(i+j)/2<qH key L s
   ·have hk:=u6 _ hm hlb;have:Pb (key L[(i+j)/2]) s= -1:=by simp [Pb,hk]
    simp only [this,show ((-1:Int)<0) by decide,if_true,au];rw [wrap64 (by omega) (by omega)];exact .mk ⟨⟨(i+j)/2+1,j,by simp,by omega,hj,Gi⟩,by omega⟩
   ·have hk:=qx _ hm (by omega);have: ¬Pb (key L[(i+j)/2]) s<0:=by unfold Pb;rw [if_neg (by omega)];split<;>omega
    simp only [this,if_false,au];exact .mk ⟨⟨i,(i+j)/2,rfl,hi,by omega,by omega⟩,by omega⟩
  ·simp only [show¬((i:Int)<(j:Int)) by omega,if_false];exact .mk (by show (i:Int)=(qH key L s:Int);omega)
 unfold bsearch;rw [Ky];simp only [au];by_cases cJ:qH key L s<L.length
 ·simp only [show ((qH key L s:Int)<(L.length:Int)) by omega,if_true,bB cJ,hc,au];have h3:=qx _ cJ (No _);have:decide (Pb (key L[qH key L s]) s=0)=nR key L s:=by
   unfold Pb;rw [if_neg (by omega)];by_cases he:key L[qH key L s]=s
   ·rw [if_neg (by omega),decide_eq_true rfl,(hs.has s).2 ⟨cJ,he⟩]
   ·rw [if_pos (by omega),decide_eq_false (by decide)];symm;rw [acN];intro hh;obtain ⟨_,hh⟩:=(hs.has s).1 hh;exact he hh
  rw [this]
 ·simp only [show¬((qH key L s:Int)<(L.length:Int)) by omega,if_false,au];have:nR key L s=false:=by rw [acN];intro hh;obtain ⟨hh,_⟩:=(hs.has s).1 hh;exact cJ hh
  rw [this]
def Kz (key:α->Int)(L:List α)(a:α):List α:=L.take (qH key L (key a))++[a]++L.drop (qH key L (key a))
theorem Dg {L:List α}{a:α} {by':Nat}(hb:(L.length+1) *by'<=2^46):BH by' L (qH key L (key a):Int) [a]=some (Kz key L a):=by
 unfold BH;rw [if_pos]
 ·rfl
 ·exact ⟨by omega,by simpa using A6 L _,by simp,by simpa using hb⟩
theorem gO {L:List α} {by':Nat}(h:L.length *by'<=2^46):qR by' L=some L:=if_pos h
end
section
variable {α ρ:Type}
theorem RJ {body:Int->Option (Int⊕(Unit⊕ρ))}(n:Nat)(p:Nat->Prop)(c:ρ)(h: ∀k,k<n->(∀j,j<k->p j)->(p k->body (k:Int)=some (.inl ((k+1:Nat):Int)))/\(¬p k->body (k:Int)=some (.inr (.inr c))))(he:body (n:Int)=some (.inr (.inl ()))):aK (Loop body 0) λr=>(r= .inl ()/\ ∀k,k<n->p k)\/(r= .inr c/\ ∃k,k<n/\ ¬p k):=by
 refine aK.count (λk=>(k:Int)) n (λk=> ∀j,j<k->p j) rfl (λj hj=>by omega) (λk hk hp=> ?_) (λhp=> ?_)
 ·by_cases hpk:p k
  ·refine .of ((h k hk hp).1 hpk) ⟨rfl,λj hj=> ?_⟩;by_cases hjk:j=k
   ·subst hjk;exact hpk
   ·exact hp j (by omega)
  ·exact .of ((h k hk hp).2 hpk) (.inr ⟨rfl,k,hk,hpk⟩)
 ·exact .of he (.inl ⟨rfl,hp⟩)
theorem XT [DecidableEq α]{a b:List α}{body:Int->Option (Int⊕(Unit⊕Bool))}(hl:a.length=b.length)(h: ∀k (ha:k<a.length)(hb:k<b.length),body (k:Int)=some (if a[k]=b[k] then .inl ((k+1:Nat):Int) else .inr (.inr false)))(he:body (a.length:Int)=some (.inr (.inl ()))):Loop body 0=some (if a=b then .inl () else .inr false):=by
 obtain ⟨r,e,hr⟩:=RJ (body:=body) a.length (λk=>a[k]? =b[k]?) false (λk hk _=>by
  have hkb:k<b.length:=by omega
  rw [cV hk,cV hkb,h k hk hkb];constructor
  ·intro hh;rw [if_pos (by simpa using hh)]
  ·intro hh;rw [if_neg (by simpa using hh)]) he
 rw [e];rcases hr with ⟨rfl,ku⟩|⟨rfl,k,hk,di⟩
 ·rw [if_pos];refine acv λk=> ?_;by_cases hk:k<a.length
  ·exact ku k hk
  ·rw [abF (by omega),abF (by omega)]
 ·rw [if_neg];intro hab;subst hab;exact di rfl
end
end Dn
/-
  Maps as lists of entries: what is there behind a store. Conditions: none.
-/
namespace Dn
open Go
theorem yN (es:List MV)(ks:List MV):cE es ks<=es.length:=by rw [fc];have:=DL (es.map kD) ks;simpa using this
theorem EI {jL:List (List MV)}{ks K9:List MV}(h:eV K9 ks=false):gm (jL++[K9]) ks=if gm jL ks<jL.length then gm jL ks else jL.length+1:=by
 induction jL with
 |nil=>simp [gm,h]
 |cons q r ih=>
  simp only [ads,gm,ac2];rcases Bool.eq_false_or_eq_true (eV q ks) with hm|hm
  ·simp [hm]
  ·have:=DL r ks;simp only [hm,cond_false];by_cases hl:gm r ks<r.length
   ·simp [hl,ih]
   ·simp [hl,ih]
theorem F3 {jL:List (List MV)}{ks:List MV}(hr:eV ks ks=true)(h:gm jL ks=jL.length):gm (jL++[ks]) ks=jL.length:=by
 induction jL with
 |nil=>simp [gm,hr]
 |cons q r ih=>
  simp only [ads,gm,ac2] at h⊢;cases hm:eV q ks with
  |true=>simp [hm] at h
  |false=>simp only [hm,cond_false] at h⊢;rw [ih (by omega)]
theorem RL {jL:List (List MV)}{ks:List MV}(h:gm jL ks<jL.length):jL[gm jL ks]? =some ks:=by
 obtain ⟨q,hq⟩: ∃q,jL[gm jL ks]? =some q:=⟨_,cV h⟩
 rw [hq,Iy hq]
theorem KA (ks:List MV)(v:MV):kD (.eu [.agg ks,v])=ks:=rfl
def Cb (es ks:List MV)(z v:MV):List MV:=ua (nL es ks z) (cE es ks) v
theorem F4 {es ks:List MV}{z v:MV}:(Cb es ks z v).map kD=if cE es ks<es.length then es.map kD else es.map kD++[ks]:=by
 have hle:=yN es ks;unfold Cb nL;rw [eO];by_cases h:cE es ks=es.length
 ·simp only [h,decide_true,cond_true];unfold ua;simp [KA]
 ·have cJ:cE es ks<es.length:=by omega
  simp only [h,decide_false,cond_false,cJ,if_true];unfold ua;rw [cV cJ];simp only;apply acv;intro i;rw [abE,abE,List.getElem?_set];by_cases hi:cE es ks=i
  ·subst hi;simp [cJ,KA]
  ·simp [hi]
theorem ae2 {es ks:List MV}{z v:MV}:(Cb es ks z v)[cE es ks]? =some (.eu [.agg ks,v]):=by
 have hle:=yN es ks;unfold Cb nL;rw [eO];by_cases h:cE es ks=es.length
 ·simp only [h,decide_true,cond_true];unfold ua;simp [KA]
 ·have cJ:cE es ks<es.length:=by omega
  simp only [h,decide_false,cond_false];unfold ua;rw [cV cJ];have hk:kD es[cE es ks]=ks:=by
   have h1:(es.map kD)[gm (es.map kD) ks]? =some (kD es[cE es ks]):=by rw [<-fc,abE,cV cJ];rfl
   exact Iy h1
  simp [cJ,hk]
theorem Uo {es ks:List MV}{z v:MV}{i:Nat}(hi:i<es.length)(di:i≠cE es ks):(Cb es ks z v)[i]? =es[i]? :=by
 have hle:=yN es ks;unfold Cb nL;rw [eO];by_cases h:cE es ks=es.length
 ·simp only [h,decide_true,cond_true];unfold ua;simp only [List.getElem?_append_right (No _),Nat.sub_self,List.getElem?_cons_zero];rw [ac7 (by omega),List.getElem?_append_left hi]
 ·have cJ:cE es ks<es.length:=by omega
  simp only [h,decide_false,cond_false];unfold ua;rw [cV cJ];simp only;rw [ac7 (λe=>di e.symm)]
theorem ab4 {es ks:List MV}{z v:MV}:(Cb es ks z v).length=if cE es ks<es.length then es.length else es.length+1:=by have h:((Cb es ks z v).map kD).length=_:=congrArg List.length F4;rw [acV] at h;rw [h];split<;>simp
def Up (es ks:List MV):Option MV:=(es[cE es ks]?).map adi
theorem RM (es ks:List MV):nU es ks=match Up es ks with|some v=>asI v|none=>0:=by unfold nU Up;cases es[cE es ks]? <;>rfl
theorem LZ {es ks:List MV}{z v:MV}(hr:eV ks ks=true):Up (Cb es ks z v) ks=some v:=by
 have hle:=yN es ks;have:cE (Cb es ks z v) ks=cE es ks:=by
  rw [fc,F4,fc];split
  ·rfl
  ·rename_i h;have h1:=DL (es.map kD) ks;simp only [acV] at h1⊢;have h2:gm (es.map kD) ks=(es.map kD).length:=by simp;omega
   rw [F3 hr h2,h2]
 unfold Up;rw [this,ae2];rfl
theorem KB {es ks K9:List MV}{z v:MV}(di:eV ks K9=false):Up (Cb es ks z v) K9=Up es K9:=by
 unfold Up;have ayK:=yN es K9;have hle:=yN es ks;have MC:cE (Cb es ks z v) K9=if cE es ks<es.length then cE es K9 else if cE es K9<es.length then cE es K9 else es.length+1:=by
  rw [fc,F4];split
  ·rw [fc]
  ·rw [EI di,<-fc];simp
 by_cases cJ:cE es K9<es.length
 ·have hm:cE (Cb es ks z v) K9=cE es K9:=by rw [MC];simp [cJ]
  have asj:cE es K9≠cE es ks:=by
   intro he;have h1:=RL (jL:=es.map kD) (ks:=K9) (by rw [<-fc];simpa using cJ);have h2:=RL (jL:=es.map kD) (ks:=ks) (by rw [<-fc,<-he];simpa using cJ);rw [<-fc,he,fc,h2] at h1;cases h1;have hq:eV ks ks=true:=by
    have:=cJ;rw [he] at this;have h3: ∀(l:List (List MV)),gm l ks<l.length-> ∃q,eV q ks=true:=by
     intro l;induction l with
     |nil=>intro h;simp [gm] at h
     |cons q r ih=>
      intro h;simp only [gm] at h;cases hm:eV q ks with
      |true=>exact ⟨q,hm⟩
      |false=>simp only [hm,cond_false,ac2] at h;exact ih (by omega)
    obtain ⟨q,hq⟩:=h3 (es.map kD) (by rw [<-fc];simpa using this);have:=Qm hq;subst this;exact hq
   rw [hq] at di;cases di
  rw [hm,Uo cJ asj]
 ·have Gm:es[cE es K9]? =none:=by rw [ac0];omega
  rw [Gm];have hlen:=ab4 (es:=es) (ks:=ks) (z:=z) (v:=v);have:(Cb es ks z v)[cE (Cb es ks z v) K9]? =none:=by
   rw [ac0,MC,hlen];repeat' split
   all_goals omega
  rw [this]
end Dn
