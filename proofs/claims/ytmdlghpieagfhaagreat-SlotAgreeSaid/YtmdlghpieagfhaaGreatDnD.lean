import Derived.Test.YtmdlghpieagfhaaGreatDnC
import Derived.Test.YtmdlghpieagfhaaGreatDnB
import Derived.Maps.RangeRun
import Derived.ScopeJumps
/-
  The walk's pieces: a turn, and the end. Conditions: none.
-/
set_option linter.unusedSimpArgs false
set_option linter.unusedVariables false
open List renaming getElem?_eq_getElem→cM,range→OF,mem_iff_getElem→abK,getElem?_map→ab5,drop_of_length_le→ab8,getElem?_eq_none→ab9,ext_getElem?→acd,length_map→aci,getElem?_eq_some_iff→acp,getElem?_eq_none_iff→acq,length_cons→acv,getElem?_set_ne→acP,getElem?_range→ac6,all_eq_true→adn,length_take→adr,getElem_mem→adw,cons_append→adx,mem_cons→adC,map_cons→adH
open Go.ChangeMaps renaming setBlock→sh
open Go.IntKind renaming wrap→AI,bits→ace,wrap_i64→acu
open Option.some renaming injEq→AT
open Nat renaming eq_of_beq_eq_true→BY,le_refl→IT,beq→No,le_of_ble_eq_true→aaW,ble_eq_true_of_le→acg,ble→acj,zero_add→acw,zero_le→adS
open Go.Value renaming pointer→aaf,cells→abX,oneCell'→acn,bool→ac7,slice→adQ
open Array renaming getElem?_setIfInBounds_ne→aaT,getElem?_toList→aaU,length_toList→ab6,getElem?_append→acK,replicate→ady
open Go.Exit renaming inBlock→aa1
open Bool renaming or_eq_false_iff→ab1,and_eq_true→aca,eq_false_iff→acf,false_eq_true→acm,not_eq_false'→adi,not_eq_true'→adk
open Go.Instr renaming loadAt→ab7
open Go.World renaming block_lt_of_cell?→acb,frozen?→adD
open Go.Code renaming region→ach,rounds→acr,wp_mono→adO
open Go.Next renaming value→ack
open Go.Result renaming andThen→aco,ok→acs
open List.cons renaming injEq→acC
open Classical renaming choose_spec→acJ
open Int renaming toNat→acZ,fdiv→adB
open Go.Oper renaming upon_value→adz
open Option renaming map_some→adA
open Go.Region renaming wanted→adG
namespace Dn
open Go
section
variable {P:Program}{c:Ctx}{g:Nat->List MV->Option MV}{n:CN}{fn:Func}{r:Nat->Nat}{o:Nat->Oper} {φ0 φ1:Ph} {w0 W W':World}{bc br bd bv:Nat} {s s':CS} {v v' l:Int}{a:Act} {σ:Nat->Value}{Q:Exit->Act->World->Prop}
theorem CI0.new {Z:Nat->Prop} {φ:Ph}{vs:List Value}{T:TypeId}(h:CI0 c φ0 w0 φ1 bc bv br n.iy n.ty s v W Z φ)(hh:W'.heap[W.heap.size]? =some (.cells vs.toArray T (0,0)))(hs:W.heap.size<=W'.heap.size)(hold: ∀b,b<W.heap.size->W'.heap[b]? =W.heap[b]?)(hr:Rest W W'): Be c n φ0 w0 (Ob φ W.heap.size vs) bc bv br s v W':=by
 have qn: ∀o,φ W.heap.size o=none:=by
  intro o;cases hq:φ W.heap.size o with
  |none=>rfl
  |some u=>exact absurd (acb W _ (h.kE _ _ _ hq)) (Nat.lt_irrefl _)
 have hle:=Oc (vs:=vs) qn;have gV:=h.same (v':=v) hs hr (λb hb _=>hold b hb) (h.hv.same λhl=>hold bv hl);have qw:bv<W.heap.size:=by obtain ⟨T,hT⟩:=h.hv;exact ba hT
 have hlr:br<W.heap.size:=by obtain ⟨arr,T,hT,_⟩:=h.hr;exact ba hT
 have db: ∀b o,b<W.heap.size->Ob φ W.heap.size vs b o=φ b o:=λb o hb=>by unfold Ob;rw [if_neg (Nat.ne_of_lt hb)]
 refine ⟨_,_,gV.cell.more hle λb o hb=>db b o hb.2,Od gV.kE hh,⟨gV.tr.ph.trans hle,gV.tr.heap,λb o hb=> ?_,gV.tr.size,gV.tr.rest⟩,.refl _,gV.sub,gV.hv,gV.zv,λo=>by rw [db _ _ qw];exact h.fv o,h.nv,gV.hr,gV.zr,λo=>by rw [db _ _ hlr];exact h.fr o,h.nr,h.ne⟩;have:b<W.heap.size:=by have:=h.tr.size;omega
 rw [db _ _ this];exact h.tr.free b o hb
theorem F9 {key:Nat->Nat} {φ:Ph}{x:Value}{xs:List MV}(h:jo key φ [x] (.list xs)): ∃ad cp,x= .slice ad xs.length cp/\ ∀k (hk:k<xs.length),∃bq off C0 vm,ad=some ⟨bq,off,none⟩/\vm.length=C0/\jo key φ vm xs[k]/\ ∀j,j<C0->φ bq (off+k *C0+j)=vm[j]? :=by
 generalize hv:[x]=l at h;generalize hm:MV.list xs=m at h;cases h with
 |list a cap ys bq off C0 f h1 h2 h3 h4 h5=>cases hm;refine ⟨a,cap,by simpa using hv,λk hk=>⟨bq,off,C0,f k,h2 (by omega),h3 k hk,h5 k hk,λj hj=>h4 k j hk hj⟩⟩
 |_=>cases hm
theorem WG {m:MV}(h:VJ m=true): ∃ms,m= .agg ms:=by cases m<;>simp [VJ] at h;exact ⟨_,rfl⟩
theorem aaj {key:Nat->Nat} {φ:Ph}{vs:List Value}{ms:List MV}(h:jo key φ vs (.agg ms)):iO key φ vs ms:=by
 cases h with
 |agg _ _ h=>exact h
theorem adV {d:Nat}{op:Op}{p:Oper}(hp:az p d op)(db: ∀t,op≠ .alloc t):Db p=false:=by unfold Db;rw [hp.op];cases op<;>first|rfl|exact absurd rfl (db _)
theorem adW (H:nH P c g n fn r o)(hI:Be c n φ0 w0 φ1 bc bv br s v W)(U2:φ1 bd 0=some (.pointer (some ⟨bc,0,none⟩)))(aM:Tm a 52 σ)(hF:Fv σ bc br bd bv){l:Int}(hl:Of g n.k s v=some l)(hle:Oe (g n.fLe [.cell (.func 0 s.ls),.i .i64 l])=some s')(hQ: ∀a W' σ',Be c n φ0 w0 φ1 bc bv br s' v W'->Tm a 52 σ'->Fv σ' bc br bd bv->σ' 5=σ 5->Q .normal a W'):(ach (r 15) #[o 49,o 50,o 51,o 52,o 53,o 54] true).wp P Q a W:=by
 have Y4:=Mq hl;obtain ⟨rr,hr⟩:=E6 hle;obtain ⟨Z,φ,h⟩:=hI;obtain ⟨u,hu⟩:=h.cell.six;obtain ⟨T,hh⟩:=hu.heap;obtain ⟨IS,s1,s2,s3,s4⟩:=H.tyS;obtain ⟨IZ,z1,z2,z3⟩:=H.tyZ;obtain ⟨Ii,i1,i2,i3⟩:=H.tyi;obtain ⟨IP,p1,p2,p3⟩:=H.tyP;refine Qi (c:=c) (φ:=λ_ _=>none) (ord:=[0,1,2,3,4,5]) H.mix H.d15 λlisted Bv=> ?_;have hIm: ∀W:World,qi (λ_ _=>none) W:=λW b o u hu=>by cases hu
 obtain ⟨W0,hW0⟩: ∃W0,W0=({W with drawn:=W.drawn+1}:World):=⟨_,rfl⟩
 rw [<-hW0];have t0:Trans (λb=>W.heap.size<=b) φ W φ W0:=by rw [hW0];exact ⟨.refl _,λ_ _ _=>rfl,λ_ _ _=>rfl,IT _,⟨rfl,rfl,rfl,λ_=>rfl⟩⟩
 have h0:=h.grow t0;have hh0:W0.heap[bc]? =some (.cells (u.vs s).toArray T (0,0)):=by rw [hW0];exact hh
 have hpd: ∀w',dC W0 w'->w'.cell? ⟨bd,0,none⟩=some (.pointer (some ⟨bc,0,none⟩)):=λw' hg=>tq (h0.kE _ _ _ (h0.base _ _ _ U2)) λhl=>hg.ql bd hl;have hrZ: ∀w',dC W0 w'->w'.rangeAt bc 0 [.int .i64 s.F,.int .i64 s.T]:=λw' hg=>wOf (arr:=u.vs s) (by rw [hg.ql bc (ba hh0)];exact hh0) (by intro j hj;match j,hj with|0,_=>rfl|1,_=>rfl);refine Bv.read (v:= .pointer (some ⟨bc,0,none⟩)) rfl H.ops.h49 (by decide) (by simp [jy,H.ops.h49.op]) (by simp [jm,H.ops.h49.op]) (pn H.fl) (by simp [Cg,H.ops.h49.op]) aM (hIm _) (λw' hg=>ko H.ops.h49 (by show (ab7 n.tP (σ 3)).run P w'=_;rw [hF.h3];exact eT H.hT p1 p2 p3 (hpd w' (hg (by simp [mh,H.ops.h49.op]))))) (λa aM Bv=> ?_);refine Bv.read (v:= .pointer (some ⟨bc,0+0,none⟩)) rfl H.ops.h50 (by decide) (by simp [jy,H.ops.h50.op]) (by simp [jm,H.ops.h50.op]) (pn H.fl) (by simp [Cg,H.ops.h50.op]) aM (hIm _) (λw' _=>z6 H.ops.h50 H.hT s1 s2 (by rw [s3];rfl) hF.h1 w') (λa aM Bv=> ?_);refine Bv.read (v:= .agg #[.int .i64 s.F,.int .i64 s.T]) rfl H.ops.h51 (by decide) (by simp [jy,H.ops.h51.op]) (by simp [jm,H.ops.h51.op]) (pn H.fl) (by simp [Cg,H.ops.h51.op]) aM (hIm _) (λw' hg=>ko H.ops.h51 (by exact ox H.hT z1 z2 (vs:=[.int .i64 s.F,.int .i64 s.T]) (by rw [z3];rfl) (hrZ w' (hg (by simp [mh,H.ops.h51.op]))))) (λa aM Bv=> ?_);refine Bv.read (v:= .int .i64 v) rfl H.ops.Z6 (by decide) (by simp [jy,H.ops.Z6.op]) (by simp [jm,H.ops.Z6.op]) (pn H.fl) (by simp [Cg,H.ops.Z6.op]) aM (hIm _) (λw' hg=>ko H.ops.Z6 (by show (ab7 n.ti (σ 4)).run P w'=_;rw [hF.h4];exact eT H.hT i1 i2 i3 ((h0.hv.same λhl=>(hg (by simp [mh,H.ops.Z6.op])).ql bv hl).cell))) (λa aM Bv=> ?_);have KG:dF P n.fLd #[.agg #[.int .i64 s.F,.int .i64 s.T],.int .i64 v] W0 λx W'=> ∃φ',Trans (λb=>W0.heap.size<=b) φ W0 φ' W'/\qi φ' W'/\iz c (λb=>W0.heap.size<=b) φ' W' (c.key n.fLd) x (.i .i64 l):=Bd (vs:=[.agg #[.int .i64 s.F,.int .i64 s.T],.int .i64 v]) (by rw [H.key];exact H.gv.2.1) (H.snd _ _ _ Y4) rfl ⟨_,_,rfl,z8 (vs:=[.int .i64 s.F,.int .i64 s.T]) (.cons [_] _ _ _ (.i _ _) (.cons [_] _ _ _ (.i _ _) .nil)),_,_,rfl,z7,rfl⟩ h0.kE;refine Bv.adK (o:=o 53) rfl (λy hy p hp=> ?_) (by simp [jy,H.ops.h53.op]) (aM.UX rfl H.ops.h53 (by decide) (Bc H.ops.h53 rfl rfl rfl _) KG ?_)
 ·have:y=5:=by simpa using hy
  subst this;cases hp;exact adV H.ops.h54 (by simp)
 rintro x1 W1 a ⟨φ2,t1,m1,o6⟩ aM;have ER:x1= .int .i64 l:=afH o6;subst ER;refine ⟨⟨λ_ _=>(Oh (P:=λ_=>True) t1).for,hIm _⟩,?_⟩;obtain ⟨_,_,_,aag,_⟩:=Bv.facts (o:=o 53) rfl;have KQ:Be c n φ0 w0 φ1 bc bv br s v W1:=⟨_,φ,h0.grow t1⟩
 have XV:dF P n.fLe #[.pointer (some ⟨bc,0,none⟩),.int .i64 l] W1 λ_ W'=>Be c n φ0 w0 φ1 bc bv br s' v W':=KQ.call (by rw [H.key];exact H.gvC.2.2.1) (by rw [H.key];exact H.sig.2.2) (H.snd _ _ _ hr) (vs:=[.int .i64 l]) λφ _ _=>⟨_,_,rfl,z7,rfl⟩
 refine aag.adK (o:=o 54) rfl (λy hy p hp=>by cases hy) (by simp [jy,H.ops.h54.op]) (aM.UX rfl H.ops.h54 (by decide) (Bc H.ops.h54 rfl rfl rfl _) XV ?_);rintro x2 W2 a zF aM;refine ⟨⟨λoi hg=> ?_,hIm _⟩,?_⟩
 ·exfalso;have Pa:sf c oi #[o 49,o 50,o 51,o 52,o 53,o 54] 5=(Pt c (o 54)||wC oi (o 54)):=rfl;rw [Pa] at hg;have h1:Pt c (o 54)=false:=by simp [Pt,jy,zt,H.ops.h54.op,H.key,H.gvC.2.2.1]
  have h2:wC oi (o 54)=false:=by unfold wC;simp [Yo,H.ops.h54.op]
  rw [h1,h2] at hg;cases hg
 ·obtain ⟨_,_,_,ahq,_⟩:=aag.facts (o:=o 54) rfl;refine ahq.done ?_;exact hQ a W2 _ zF aM ⟨hF.h1,hF.h2,hF.h3,hF.h4⟩ rfl
theorem adX (H:nH P c g n fn r o)(hI:Be c n φ0 w0 φ1 bc bv br s v W)(U2:φ1 bd 0=some (.pointer (some ⟨bc,0,none⟩)))(aM:Tm a 52 σ)(hF:Fv σ bc br bd bv){k:Nat}(hk:k<s.pl.length)(h5:σ 5= .int .i64 (k:Int))(Uq:VJ s.pl[k]=true)(hw:s.pl[k].w=n.sz)(qm:0<n.sz){bs:List Bool}(hb:Bz s.bl=some bs)(hd:iG (E4 g n.k s.pl[k]) bs 0 s=some s')(hQ: ∀a W' σ',Be c n φ0 w0 φ1 bc bv br s' v W'->Tm a 52 σ'->Fv σ' bc br bd bv->σ' 5= .int .i64 (k:Int)->Q .normal a W'): (ach (r 13) #[o 39,o 40,o 41,o 42,o 43,o 44,o 45] false).wp P (Exit.then (λa W=>(ach (r 14) #[o 46,o 47,o 48] false).wp P Q a W) Q) a W:=by
 obtain ⟨Z,φ,h⟩:=hI;obtain ⟨u,hu⟩:=h.cell.six;obtain ⟨T,hh⟩:=hu.heap;obtain ⟨IS,s1,s2,s3,s4⟩:=H.tyS;obtain ⟨IM,m1,m2,m3⟩:=H.tyM;obtain ⟨Im,e1,e2,e3⟩:=H.tym;obtain ⟨IP,p1,p2,p3⟩:=H.tyP;obtain ⟨hei,hec⟩:=bB e1;obtain ⟨im,z,him,hsm,Tf,hz0,Sp⟩:=lp (H.hT _ Im hei) hec;obtain ⟨ad,cp,hup,GP⟩:=F9 hu.p;obtain ⟨bq,off,C0,vm,EU,hlm,hrm,KE⟩:=GP k hk;obtain ⟨ms,KW⟩:=WG Uq;have Ut:C0=n.sz:=by rw [<-hlm,hrm.width,hw]
 subst Ut;have Np:W.cell? ⟨bc,5,none⟩=some (.slice (some ⟨bq,off,none⟩) s.pl.length cp):=by rw [cell_of hh];show some u.p=_;rw [hup,EU]
 have ahs:W.rangeAt bq (off+k *n.sz) vm:=by intro j x hj;have C2:=(acp.1 hj).1;exact h.kE _ _ _ (by rw [KE j (by omega)];exact hj)
 have lF: ∀x∈vm,x.oneCell'=true:=hrm.cells;refine wp_region ?_;rw [show OF (#[o 39,o 40,o 41,o 42,o 43,o 44,o 45]:Array Oper).size=[0,1,2,3,4,5,6] from rfl];refine aM.step rfl H.ops.h39 (by decide) (z6 H.ops.h39 H.hT s1 s2 (q:=5) (by rw [s3];rfl) hF.h1 _) (λa aM=> ?_);refine aM.step (v:= .slice (some ⟨bq,off,none⟩) s.pl.length cp) rfl H.ops.h40 (by decide) (ko H.ops.h40 (eT H.hT m1 m2 m3 (by simpa using Np))) (λa aM=> ?_);refine aM.step (v:= .int .i64 (k:Int)) rfl H.ops.h41 (by decide) ((bF H.ops.h41 _).trans (by show acs (ack (σ 5)) W=_;rw [h5])) (λa aM=> ?_);refine aM.step rfl H.ops.h42 (by decide) (UY (size:=n.sz) H.ops.h42 H.ahm him (by rw [hsm,e3]) rfl rfl hk _) (λa aM=> ?_);refine aM.step (v:= .agg vm.toArray) rfl H.ops.h43 (by decide) (ko H.ops.h43 (ox H.hT e1 e2 (by rw [hlm,e3]) ahs)) (λa aM=> ?_);refine aM.step rfl H.ops.h44 (by decide) (Hn H.ops.h44 him hz0 _) (λa aM=> ?_);have afJ:(W.alloc (.cells z.cells n.tm)).heap[W.heap.size]? =some (.cells z.cells n.tm (0,0)):=gG W _;have hsc:(Value.agg vm.toArray).cells.toList=vm:=by simp [abX]
 refine aM.IL rfl H.ops.h45 (xP (v:= .agg vm.toArray) (off:=0) H.ops.h45 (H.hT _ Im hei) hec rfl rfl (by rw [hsc,hlm,e3]) (by rw [hsc];exact lF) afJ (by rw [Sp];omega)) ?_;rw [hsc];obtain ⟨W2,KJ⟩: ∃W2,W2=(W.alloc (.cells z.cells n.tm)).setRow W.heap.size (z.cells.toList.take 0++vm++z.cells.toList.drop (0+Im.size)).toArray:=⟨_,rfl⟩
 rw [<-KJ];have PC:W2.heap.size=W.heap.size+1:=by rw [KJ,setRow_size];simp
 have hold: ∀b,b<W.heap.size->W2.heap[b]? =W.heap[b]? :=λb hb=>by rw [KJ,setRow_other _ _ _ _ (by omega)];exact (dC.alloc W z.cells n.tm).ql b hb
 have O9:W2.heap[W.heap.size]? =some (.cells vm.toArray n.tm (0,0)):=by
  rw [KJ,qC _ afJ];congr 3;have:z.cells.toList.drop (0+Im.size)=[]:=by rw [acw,ab8];rw [ab6,Sp];exact IT _
  rw [this];simp
 have Tb:Rest W W2:=by rw [KJ];exact (Rest.alloc W z.cells n.tm).trans (.setRow _ _ _)
 have zF:=h.new O9 (by omega) hold Tb;have hlφ:lE φ (Ob φ W.heap.size vm):=Oc λo=>by
  cases hq:φ W.heap.size o with
  |none=>rfl
  |some u=>exact absurd (acb W _ (h.kE _ _ _ hq)) (Nat.lt_irrefl _)
 have als:Ob φ W.heap.size vm bd 0=some (.pointer (some ⟨bc,0,none⟩)):=hlφ _ _ _ (h.base _ _ _ U2);have Dw:=Oi H (m:=s.pl[k]) (vm:=vm) (bm:=W.heap.size) zF als (λj hj=>by simp [Ob]) hlm ⟨ms,KW,by rw [KW] at hrm;exact (aaj hrm).mono hlφ⟩ hb hd;show (ach (r 14) #[o 46,o 47,o 48] false).wp P Q a W2;refine wp_region ?_;rw [show OF (#[o 46,o 47,o 48]:Array Oper).size=[0,1,2] from rfl];have hpd:W2.cell? ⟨bd,0,none⟩=some (.pointer (some ⟨bc,0,none⟩)):=by obtain ⟨Z3,φ3,h3⟩:=zF;exact h3.kE _ _ _ (h3.base _ _ _ als)
 refine aM.step (v:= .pointer (some ⟨bc,0,none⟩)) rfl H.ops.h46 (by decide) (ko H.ops.h46 (by show (ab7 n.tP (σ 3)).run P W2=_;rw [hF.h3];exact eT H.hT p1 p2 p3 hpd)) (λa aM=> ?_);refine aM.step (v:= .func (.func n.f3) #[] #[.pointer (some ⟨bd,0,none⟩),.pointer (some ⟨W.heap.size,0,none⟩)]) rfl H.ops.h47 (by decide) ((Tc H.ops.h47 _).trans (by show acs (ack (.func (.func n.f3) #[] #[σ 3,_])) W2=_;rw [hF.h3];rfl)) (λa aM=> ?_);refine aM.call rfl H.ops.h48 (by decide) (Bc H.ops.h48 rfl rfl rfl _) Dw ?_;rintro x W3 a hI3 aM;exact hQ a W3 _ (hI3.ade (h.base.trans hlφ)) aM ⟨hF.h1,hF.h2,hF.h3,hF.h4⟩ h5
abbrev Qo (r:Nat->Nat)(o:Nat->Oper):Code:= .seq (.seq (.region (r 11) #[o 34,o 35,o 36,o 37,o 38] false) (.cond (.tmp 34) .skip (.exit 2))) (.seq (.block 3 (.seq (.region (r 13) #[o 39,o 40,o 41,o 42,o 43,o 44,o 45] false) (.seq (.region (r 14) #[o 46,o 47,o 48] false) (.region (r 15) #[o 49,o 50,o 51,o 52,o 53,o 54] true)))) (.region (r 12) #[o 55,o 56,o 57] false))
theorem Qp (H:nH P c g n fn r o)(qm:0<n.sz)(U2:φ1 bd 0=some (.pointer (some ⟨bc,0,none⟩)))(hQ: ∀a W' σ',Be c n φ0 w0 φ1 bc bv br s' v W'->Tm a 52 σ'->Fv σ' bc br bd bv->Q .normal a W'): ∀(m:Nat) (p:Int×CS) (W:World) (a:Act) (σ:Nat->Value),iter (IV g n.k v) m p=some s'->Be c n φ0 w0 φ1 bc bv br p.2 v W->Tm a 52 σ->Fv σ bc br bd bv->σ 5= .int .i64 p.1->acr P (Qo r o) (aa1 2 Q) m a W:=by
 intro m;induction m with
 |zero=>intro p W a σ h;simp [iter] at h
 |succ m ih=>
  rintro ⟨at_,s⟩ W a σ h hI aM hF h5;rw [rounds_succ];simp only [iter] at h;dsimp only at hI h5;have UB:=hI;obtain ⟨Z,φ,hc⟩:=hI;obtain ⟨u,hu⟩:=hc.cell.six;obtain ⟨T,hh⟩:=hu.heap;obtain ⟨IS,s1,s2,s3,s4⟩:=H.tyS;obtain ⟨IM,m1,m2,m3⟩:=H.tyM;obtain ⟨ad,cp,hup,GP⟩:=F9 hu.p;have Np:W.cell? ⟨bc,5,none⟩=some (.slice ad s.pl.length cp):=by rw [cell_of hh];show some u.p=_;rw [hup]
  refine wp_seq (wp_seq (wp_region ?_));rw [show OF (#[o 34,o 35,o 36,o 37,o 38]:Array Oper).size=[0,1,2,3,4] from rfl];refine aM.step (v:= .int .i64 at_) rfl H.ops.h34 (by decide) ((bF H.ops.h34 _).trans (by show acs (ack (σ 5)) W=_;rw [h5])) (λa aM=> ?_);refine aM.step rfl H.ops.h35 (by decide) (z6 H.ops.h35 H.hT s1 s2 (q:=5) (by rw [s3];rfl) hF.h1 _) (λa aM=> ?_);refine aM.step (v:= .slice ad s.pl.length cp) rfl H.ops.h36 (by decide) (ko H.ops.h36 (eT H.hT m1 m2 m3 (by simpa using Np))) (λa aM=> ?_);refine aM.step (v:= .int .i64 ((s.pl.length:Nat):Int)) rfl H.ops.h37 (by decide) (vl H.ops.h37 H.ahm rfl _) (λa aM=> ?_);refine aM.step (v:= .bool (decide (at_<(s.pl.length:Int)))) rfl H.ops.h38 (by decide) (Qh H.ops.h38 rfl rfl _) (λa aM=> ?_);unfold IV at h;dsimp only at h;by_cases cT:at_<(s.pl.length:Int)
  ·rw [if_pos cT] at h;refine aM.cond (b:=true) (by show ac7 (decide (at_<(s.pl.length:Int)))=_;rw [decide_eq_true cT]) ?_;simp only [if_true];refine wp_skip ?_;cases Mc:RU s.pl at_ with
   |none=>rw [Mc] at h;simp at h
   |some mm=>
   cases hb:Bz s.bl with
   |none=>rw [Mc,hb] at h;simp at h
   |some bs=>
   rw [Mc,hb] at h;dsimp only at h;cases Uq:VJ mm&&No mm.w n.k.sz with
   |false=>rw [Uq] at h;simp at h
   |true=>
   rw [Uq] at h;simp only [cond_true] at h;simp only [aca] at Uq;obtain ⟨ap5,ahu⟩:=Uq;have ahu:mm.w=n.sz:=BY ahu;cases hd:iG (E4 g n.k mm) bs 0 s with
   |none=>rw [hd] at h;simp at h
   |some s1'=>
   rw [hd] at h;dsimp only at h;cases hl:Of g n.k s1' v with
   |none=>rw [hl] at h;simp at h
   |some l=>
   rw [hl] at h;dsimp only at h;cases hle:Oe (g n.k.le [.cell (.func 0 s1'.ls),.i .i64 l]) with
   |none=>rw [hle] at h;simp at h
   |some s2'=>
   rw [hle] at h;simp only at h;unfold RU at Mc;split at Mc;rotate_left
   ·cases Mc
   rename_i h0;obtain ⟨hk,YH⟩:=acp.1 Mc;obtain ⟨k,rfl⟩: ∃k:Nat,at_=(k:Int):=⟨at_.toNat,by omega⟩
   simp only [Int.toNat_natCast] at hk YH;subst YH;refine wp_seq (wp_block (wp_seq (adO ?_ (adX (s':=s1') (Q:=λx a W=>match x with| .normal=> ∃σ',Be c n φ0 w0 φ1 bc bv br s1' v W/\Tm a 52 σ'/\Fv σ' bc br bd bv/\σ' 5= .int .i64 (k:Int)|_=>False) H UB U2 aM ⟨hF.h1,hF.h2,hF.h3,hF.h4⟩ hk h5 ap5 ahu qm hb hd ?_))));rotate_left
   ·intro a W' σ' q1 q2 q3 q4;exact ⟨σ',q1,q2,q3,q4⟩
   intro x a1 W1 hx;cases x<;>try exact hx.elim
   refine wp_seq (adO ?_ hx);intro x a2 W2 GN;cases x<;>try exact GN.elim
   obtain ⟨σ2,zF,Qm,EY,Z6⟩:=GN;refine adW H zF U2 Qm EY hl hle ?_;intro a3 W3 σ3 hI3 Qn hF3 h53;rw [Z6] at h53;show (ach (r 12) #[o 55,o 56,o 57] false).wp P _ a3 W3;refine wp_region ?_;rw [show OF (#[o 55,o 56,o 57]:Array Oper).size=[0,1,2] from rfl];refine Qn.step (v:= .int .i64 (k:Int)) rfl H.ops.h55 (by decide) ((bF H.ops.h55 _).trans (by show acs (ack (σ3 5)) W3=_;rw [h53])) (λa aM=> ?_);refine aM.step rfl H.ops.h56 (by decide) (UZ (p:=(k:Int)) (q:=1) H.ops.h56 rfl rfl _) (λa aM=> ?_);refine aM.step (v:= .int .i64 (AI .i64 ((k:Int)+1))) rfl H.ops.h57 (by decide) (jd H.ops.h57 _) (λa aM=> ?_);exact ih (AI .i64 ((k:Int)+1),s2') W3 a _ h hI3 aM ⟨hF3.h1,hF3.h2,hF3.h3,hF3.h4⟩ rfl
  ·rw [if_neg cT] at h;simp only [AT] at h;refine aM.cond (b:=false) (by show ac7 (decide (at_<(s.pl.length:Int)))=_;rw [decide_eq_false cT]) ?_;simp only [acm,if_false];refine wp_exit ?_;rw [<-h] at hQ;exact hQ a W _ UB aM ⟨hF.h1,hF.h2,hF.h3,hF.h4⟩
end
end Dn
/-
  The walk, whole. Conditions: none.
-/
namespace Dn
open Go
theorem cK.afK {c:Ctx} {Z Z':Nat->Prop} {φ φ':Ph} {W W':World}{v:Value}{ty:Nat}{xs:List MV}(h:cK c (bJ.plain Z) (ou c.key φ) W v ⟨ty,false,xs⟩)(hz: ∀b,v.ownBlock=some b->Z' b)(hp:lE φ φ')(hf: ∀b o,v.ownBlock=some b->φ' b o=φ b o)(hh: ∀b,v.ownBlock=some b->b<W.heap.size->W'.heap[b]? =W.heap[b]?): cK c (bJ.plain Z') (ou c.key φ') W' v ⟨ty,false,xs⟩:=by
 obtain ⟨I,cells,q1,q2,q3,q4,q5⟩:=h.row;refine ⟨I,cells,q1,q2,⟨q3.1,?_⟩,q4.mono hp,λb hb=>⟨hz b hb,λoff u hu=>(q5 b hb).2.1 off u ?_,λhc=>hc.elim⟩⟩
 ·rcases q3.2 with h6|⟨g,cap,fB,r1,r2,r3,r4⟩
  ·exact .inl h6
  ·exact .inr ⟨g,cap,fB,r1,r2,(hh g (by rw [r1];rfl) (ba r3)).trans r3,r4⟩
 ·have hu:φ' b off=some u:=hu;rw [hf b off hb] at hu;exact hu
section
variable {P:Program}{c:Ctx}{g:Nat->List MV->Option MV}{n:CN}{fn:Func}{r:Nat->Nat}{o:Nat->Oper} {φ0 φ1:Ph} {w0 W W':World}{bc br bd bv:Nat} {s s':CS} {v v' l:Int}{a:Act} {σ:Nat->Value}{Q:Exit->Act->World->Prop}
def adY (c:Ctx)(n:CN) (φ0:Ph)(w0:World)(s:CS)(x:Value)(W:World):Prop:= ∃φ',Trans (λb=>w0.heap.size<=b) φ0 w0 φ' W/\qi φ' W/\fS c.key φ' x (.agg s.ls)
theorem aak (H:nH P c g n fn r o)(hI:Be c n φ0 w0 φ1 bc bv br s v W)(aM:Tm a 52 σ)(hF:Fv σ bc br bd bv){id d:Nat}{oA oB:Oper}(hA:az oA d (.load n.tS (.tmp 1)))(hB:ub oB (.store n.tS (.tmp 2) (.tmp d)))(hd:d<52)(hd2:2<d)(hQ: ∀a W,bodyPost P fn (λe W=> ∃x,e= .returned x/\adY c n φ0 w0 s x W) .ret a W->Q .ret a W): (Code.seq (.region id #[oA,oB] false) .ret).wp P Q a W:=by
 obtain ⟨Z,φ,h⟩:=hI;obtain ⟨u,hu⟩:=h.cell.six;obtain ⟨φt,k1,k2,k3,k4,k5⟩:=hu.still h.kE;obtain ⟨T,hh⟩:=hu.heap;obtain ⟨IS,s1,s2,s3,s4⟩:=H.tyS;obtain ⟨mW,hc⟩:=bB s1;obtain ⟨arr,T2,xC,Cl⟩:=h.hr;have hrS:W.rangeAt bc 0 (u.vs s):=wOf hh (by simp);have hlen:(u.vs s).length=IS.size:=by rw [s4];rfl
 refine wp_seq (wp_region ?_);rw [show OF (#[oA,oB]:Array Oper).size=[0,1] from rfl];refine aM.step (v:= .agg (u.vs s).toArray) rfl hA hd (ko hA (by show (ab7 n.tS (σ 1)).run P W=_;rw [hF.h1];exact ox H.hT s1 s2 hlen hrS)) (λa aM=> ?_);have h2:zY σ d (.agg (u.vs s).toArray) 2= .pointer (some ⟨br,0,none⟩):=by
  have:No 2 d=false:=by
   cases hq:No 2 d with
   |false=>rfl
   |true=>have:=BY hq;omega
  show (bif No 2 d then _ else σ 2)=_;rw [this];exact hF.h2
 have hdd:zY σ d (.agg (u.vs s).toArray) d= .agg (u.vs s).toArray:=by show (bif No d d then _ else σ d)=_;rw [Nat.beq_refl];rfl
 have hsc:(Value.agg (u.vs s).toArray).cells.toList=u.vs s:=by simp [abX]
 refine aM.IL rfl hB (xP (v:= .agg (u.vs s).toArray) (g:=br) (off:=0) hB (H.hT _ _ mW) hc h2 hdd (by rw [hsc];exact hlen) (by rw [hsc];exact k4.cells) xC (by rw [s4,Cl];exact IT _)) ?_;rw [hsc];obtain ⟨W2,KJ⟩: ∃W2,W2=W.setRow br (arr.toList.take 0++u.vs s++arr.toList.drop (0+IS.size)).toArray:=⟨_,rfl⟩
 rw [<-KJ];have qV:W2.heap[br]? =some (.cells (u.vs s).toArray T2 (0,0)):=by
  rw [KJ,qC _ xC];congr 3;have:arr.toList.drop (0+IS.size)=[]:=by rw [acw,s4,ab8];rw [ab6,Cl];exact IT _
  rw [this];simp
 have EP: ∀o,φt br o=none:=λo=>by rw [k3 br o h.zr];exact h.fr o
 have K3: ∀b,b≠br->W2.heap[b]? =W.heap[b]? :=λb hb=>by rw [KJ];exact setRow_other _ _ _ _ hb
 refine wp_ret (hQ _ _ ?_);refine ⟨aM.defers,.agg (u.vs s).toArray,?_,_,rfl,φt,⟨h.tr.ph.trans k1,λb hb hl=> ?_,λb o hb=> ?_,by rw [KJ,setRow_size];exact h.tr.size,h.tr.rest.trans (by rw [KJ];exact .setRow _ _ _)⟩,?_,z8 k4⟩
 ·have alv:(loadVar n.tS ⟨br,0,none⟩).run P W2= .ok (.agg (u.vs s).toArray) W2:=by have:=ox (P:=P) (w:=W2) (g:=br) (off:=0) H.hT s1 s2 hlen (wOf qV (by simp));simpa [ab7,Instr.sureAddr] using this
  have Nw:a.tmps.getD 2 undef= .pointer (some ⟨br,0,none⟩):=(aM.get 2).trans h2;have ap6:a.tmps[2]?.getD undef= .pointer (some ⟨br,0,none⟩):=by simpa using Nw
  simp [results,H.res,ap6,alv,asAddr]
 ·rw [K3 b (λe=>hb (by rw [e];exact h.nr))];exact h.tr.heap b hb hl
 ·rw [k3 b o (λhz=>hb (h.sub b hz))];exact h.tr.free b o hb
 ·intro b o x hx;refine tq (k2 b o x hx) λhl=>K3 b λe=> ?_;rw [e,EP] at hx;cases hx
theorem adZ (H:nH P c g n fn r o)(qm:0<n.sz)(hI:Be c n φ0 w0 φ1 bc bv br s 0 W)(U2:φ1 bd 0=some (.pointer (some ⟨bc,0,none⟩)))(aM:Tm a 52 σ)(hF:Fv σ bc br bd bv){bs:List Bool}(hb:Bz s.bl=some bs)(h:(Dn.bd (iG (IR g n.k s) bs 0 0) λv=>Dn.bd (Loop (wO g n.k s) v) λv=>if 100000<v then some s else Dn.bd (iG (IU g n.k v) bs 0 s) λs=>Loop (IV g n.k v) ((0:Int),s))=some s'): (Code.seq (.region (r 4) #[o 13,o 14,o 15] false) (.seq (.block 0 (.loop (IX r o))) (.seq (.seq (.region (r 7) #[o 26,o 27] false) (.cond (.tmp 25) (.seq (.region (r 8) #[o 28,o 29] false) .ret) .skip)) (.seq (.region (r 9) #[o 30,o 31,o 32] false) (.seq (.seq (.region (r 10) #[o 33] false) (.block 2 (.loop (Qo r o)))) (.seq (.region (r 16) #[o 58,o 59] false) .ret)))))).wp P (bodyPost P fn λe W=> ∃x,e= .returned x/\adY c n φ0 w0 s' x W) a W:=by
 obtain ⟨v1,Nu,h⟩:=mV h;obtain ⟨v2,FL,h⟩:=mV h;obtain ⟨IP,p1,p2,p3⟩:=H.tyP;obtain ⟨Ii,i1,i2,i3⟩:=H.tyi;have hpd: ∀{s v W},Be c n φ0 w0 φ1 bc bv br s v W->W.cell? ⟨bd,0,none⟩=some (.pointer (some ⟨bc,0,none⟩)):=λ⟨Z3,φ3,h3⟩=>h3.kE _ _ _ (h3.base _ _ _ U2);refine wp_seq (wp_region ?_);rw [show OF (#[o 13,o 14,o 15]:Array Oper).size=[0,1,2] from rfl];refine aM.step (v:= .pointer (some ⟨bc,0,none⟩)) rfl H.ops.S7 (by decide) (ko H.ops.S7 (by show (ab7 n.tP (σ 3)).run P W=_;rw [hF.h3];exact eT H.hT p1 p2 p3 (hpd hI))) (λa aM=> ?_);refine aM.step (v:= .func (.func n.f1) #[] #[.pointer (some ⟨bv,0,none⟩),.pointer (some ⟨bc,0,none⟩)]) rfl H.ops.S9 (by decide) ((Tc H.ops.S9 _).trans (by show acs (ack (.func (.func n.f1) #[] #[σ 4,σ 1])) W=_;rw [hF.h4,hF.h1])) (λa aM=> ?_);refine aM.call rfl H.ops.Ta (by decide) (Bc H.ops.Ta rfl rfl rfl _) (WE H hI hb Nu) ?_;rintro x1 W1 a1 KQ aM;refine wp_seq (WD H FL KQ aM ⟨hF.h1,hF.h2,hF.h3,hF.h4⟩ ?_);intro a2 W2 σ2 zF Qm EY;refine wp_seq (wp_seq (wp_region ?_));rw [show OF (#[o 26,o 27]:Array Oper).size=[0,1] from rfl];have hiv:W2.cell? ⟨bv,0,none⟩=some (.int .i64 v2):=by obtain ⟨Z3,φ3,h3⟩:=zF;exact h3.hv.cell
 refine Qm.step (v:= .int .i64 v2) rfl H.ops.h26 (by decide) (ko H.ops.h26 (by show (ab7 n.ti (σ2 4)).run P W2=_;rw [EY.h4];exact eT H.hT i1 i2 i3 hiv)) (λa aM=> ?_);refine aM.step (v:= .bool (decide ((100000:Int)<v2))) rfl H.ops.h27 (by decide) (II H.ops.h27 rfl rfl _) (λa3 Qn=> ?_);have hF3:Fv _ bc br bd bv:=⟨EY.h1,EY.h2,EY.h3,EY.h4⟩
 by_cases Tg:100000<v2
 ·rw [if_pos Tg] at h;simp only [AT] at h;subst h;refine Qn.cond (b:=true) (by show ac7 (decide ((100000:Int)<v2))=_;rw [decide_eq_true Tg]) ?_;simp only [if_true];exact aak H zF Qn ⟨EY.h1,EY.h2,EY.h3,EY.h4⟩ H.ops.h28 H.ops.h29 (by decide) (by decide) λa W hx=>hx
 ·rw [if_neg Tg] at h;obtain ⟨s1,yF,h⟩:=mV h;refine Qn.cond (b:=false) (by show ac7 (decide ((100000:Int)<v2))=_;rw [decide_eq_false Tg]) ?_;simp only [acm,if_false];refine wp_skip ?_;refine wp_seq (wp_region ?_);rw [show OF (#[o 30,o 31,o 32]:Array Oper).size=[0,1,2] from rfl];refine Qn.step (v:= .pointer (some ⟨bc,0,none⟩)) rfl H.ops.h30 (by decide) (ko H.ops.h30 (by show (ab7 n.tP (σ2 3)).run P W2=_;rw [EY.h3];exact eT H.hT p1 p2 p3 (hpd zF))) (λa aM=> ?_);refine aM.step (v:= .func (.func n.f2) #[] #[.pointer (some ⟨bd,0,none⟩),.pointer (some ⟨bv,0,none⟩)]) rfl H.ops.h31 (by decide) ((Tc H.ops.h31 _).trans (by show acs (ack (.func (.func n.f2) #[] #[σ2 3,σ2 4])) W2=_;rw [EY.h3,EY.h4])) (λa aM=> ?_);refine aM.call rfl H.ops.h32 (by decide) (Bc H.ops.h32 rfl rfl rfl _) (Te H zF U2 hb yF) ?_;rintro x4 W4 a4 hI4 ap7;refine wp_seq (wp_seq (wp_region ?_));rw [show OF (#[o 33]:Array Oper).size=[0] from rfl];refine ap7.step (v:= .int .i64 0) rfl H.ops.h33 (by decide) (jd H.ops.h33 _) (λa aM=> ?_);obtain ⟨m,hm⟩: ∃m,iter (IV g n.k v2) m ((0:Int),s1)=some s':=by
   unfold Loop at h;split at h
   ·rename_i hex;have:=acJ hex;simp only [AT] at h;rw [h] at this;exact this
   ·cases h
  refine wp_block (wp_loop_rounds m (Qp H qm U2 ?_ m ((0:Int),s1) W4 a _ hm hI4 aM ⟨EY.h1,EY.h2,EY.h3,EY.h4⟩ rfl));intro a5 W5 σ5 hI5 ap8 hF5;exact aak H hI5 ap8 hF5 H.ops.h58 H.ops.h59 (by decide) (by decide) λa W hx=>hx
theorem tm1 (v0:Value)(k:Nat):Tm {tmps:= #[v0]++ady k undef,defers:=[]} (k+1) (zY (λ_=>undef) 0 v0):=by
 refine ⟨rfl,by simp [Nat.add_comm],λq=> ?_⟩;by_cases h0:q=0
 ·subst h0;show (#[v0]++ady k undef).getD 0 undef=v0;simp [acK]
 have e:No q 0=false:=by
  cases hq:No q 0 with
  |false=>rfl
  |true=>exact absurd (BY hq) h0
 simp only [zY,e,cond_false];have h3:1<=q:=by omega
 simp [acK,Array.getElem?_replicate,show¬q<1 by omega];by_cases hk:q-1<k<;>simp [hk]
theorem WH {x:Value}(h:x.oneCell'=true):x.cells.toList=[x]:=by cases x<;>simp_all [abX,acn]
theorem aal {key:Nat->Nat} {φ:Ph}{x:Value}{s:CS}(h:fS key φ x (.agg s.ls)): ∃u:Six,x= .agg (u.vs s).toArray/\jo key φ [u.b] (.list s.bl)/\jo key φ [u.w] (.list s.wl)/\jo key φ [u.n] (.list s.nl)/\jo key φ [u.p] (.list s.pl):=by
 obtain ⟨arr,rfl,h⟩:=h;unfold CS.ls at h;generalize hl:arr.toList=L at h;cases h with
 |cons v0 _ r0 _ l0 h=>
 cases h with
 |cons v1 _ r1 _ l1 h=>
 cases h with
 |cons v2 _ r2 _ l2 h=>
 cases h with
 |cons v3 _ r3 _ l3 h=>
 cases h with
 |cons v4 _ r4 _ l4 h=>
 cases h with
 |cons v5 _ r5 _ l5 h=>
 cases h;cases l0;cases l1;obtain ⟨vb,rfl⟩:=xQ l2 rfl;obtain ⟨vw,rfl⟩:=xQ l3 rfl;obtain ⟨vn,rfl⟩:=xQ l4 rfl;obtain ⟨vp,rfl⟩:=xQ l5 rfl;exact ⟨⟨vb,vw,vn,vp⟩,by congr 1;exact Array.toList_inj.1 (by rw [hl];rfl),l2,l3,l4,l5⟩
theorem aam {φ:Ph}{W:World}(hi:qi φ W){b:Nat}(hb:W.heap.size<=b)(o:Nat):φ b o=none:=by
 cases hq:φ b o with
 |none=>rfl
 |some u=>exact absurd (acb W _ (hi _ _ _ hq)) (Nat.not_lt.2 hb)
theorem ad0 {φ:Ph} {W W':World}(hi:qi φ W)(h: ∀b,b<W.heap.size->W'.heap[b]? =W.heap[b]?):qi φ W':=λb o u hu=>tq (hi b o u hu) (h b)
structure St1 (c:Ctx) (n:CN) (φ0:Ph) (w0:World) (s0:CS) (nl:List MV) (u:Six) (x:Value) (W:World) (φ5:Ph):Prop where
 k1:W.heap[w0.heap.size]? =some (.cells #[.int .i64 s0.F,.int .i64 s0.T,u.b,u.w,x,.slice none 0 0] n.tS (0,0))
 br: ∃arr,W.heap[w0.heap.size+1]? =some (.cells arr n.tS (0,0))/\arr.size=6
 bd:W.heap[w0.heap.size+2]? =some (.cells [aaf (some ⟨w0.heap.size,0,none⟩)].toArray n.tP (0,0))
 ql: ∀b,b<w0.heap.size->W.heap[b]? =w0.heap[b]?
 rest:Rest w0 W
 sz:w0.heap.size+3<=W.heap.size
 iy:cK c (bJ.plain λb=>w0.heap.size+3<=b) (ou c.key φ5) W x ⟨n.ty,false,nl⟩
 kE:qi φ5 W
 le:lE φ0 φ5
 ph: ∀b o,b<w0.heap.size+3->φ5 b o=φ0 b o
theorem aan (H:nH P c g n fn r o){s0:CS}{nl:List MV}{u:Six} {φ0:Ph}{w0:World}{rest:Code}(lV:qi φ0 w0)(We:jo c.key φ0 [u.n] (.list s0.nl))(hgc:g n.fCl [.list s0.nl]=some (.fresh nl))(aM:Tm a 52 (zY (λ_=>undef) 0 (.agg (u.vs s0).toArray)))(hQ: ∀a W σ x φ5,Tm a 52 σ->σ 1= .pointer (some ⟨w0.heap.size,0,none⟩)->σ 2= .pointer (some ⟨w0.heap.size+1,0,none⟩)->σ 3= .pointer (some ⟨w0.heap.size+2,0,none⟩)->St1 c n φ0 w0 s0 nl u x W φ5->rest.wp P Q a W): (Code.seq (.region (r 0) #[o 0,o 1] false) (.seq (.region (r 1) #[o 2,o 3] false) (.seq (.region (r 2) #[o 4,o 5,o 6,o 7,o 8,o 9,o 10] false) rest))).wp P Q a w0:=by
 obtain ⟨IS,s1,s2,s3,s4⟩:=H.tyS;obtain ⟨IP,p1,p2,p3⟩:=H.tyP;obtain ⟨IN,n1,n2,n3⟩:=H.tyN;obtain ⟨IM,m1,m2,m3⟩:=H.tyM;obtain ⟨hSi,hSc⟩:=bB s1;obtain ⟨hPi,hPc⟩:=bB p1;obtain ⟨hNi,hNc⟩:=bB n1;obtain ⟨hMi,hMc⟩:=bB m1;obtain ⟨jS,zS,hjS,hsS,_,hzS,ap9⟩:=lp (H.hT _ _ hSi) hSc;obtain ⟨jP,zP,hjP,hsP,_,hzP,alw⟩:=lp (H.hT _ _ hPi) hPc;refine wp_seq (wp_region ?_);rw [show OF (#[o 0,o 1]:Array Oper).size=[0,1] from rfl];refine aM.step rfl H.ops.h0 (by decide) (adL H.ops.h0 _) (λa aM=> ?_);obtain ⟨W1,hW1⟩: ∃W1,W1=w0.alloc (.cells (u.vs s0).toArray n.tS):=⟨_,rfl⟩
 rw [show w0.alloc (.cells (ev (zY (λ_=>undef) 0 (.agg (u.vs s0).toArray)) (.tmp 0)).cells n.tS)=W1 from hW1.symm];have a1:W1.heap[w0.heap.size]? =some (.cells (u.vs s0).toArray n.tS (0,0)):=by rw [hW1];exact gG w0 _
 have a2:W1.heap.size=w0.heap.size+1:=by rw [hW1];simp
 have a3: ∀b,b<w0.heap.size->W1.heap[b]? =w0.heap[b]? :=λb hb=>by rw [hW1];exact (dC.alloc w0 _ _).ql b hb
 have a4:Rest w0 W1:=by rw [hW1];exact .alloc _ _ _
 refine aM.step rfl H.ops.h1 (by decide) (Hn H.ops.h1 hjS hzS _) (λa aM=> ?_);obtain ⟨W2,KJ⟩: ∃W2,W2=W1.alloc (.cells zS.cells n.tS):=⟨_,rfl⟩
 rw [<-KJ];have b1:W2.heap[W1.heap.size]? =some (.cells zS.cells n.tS (0,0)):=by rw [KJ];exact gG W1 _
 have b2:W2.heap.size=W1.heap.size+1:=by rw [KJ];simp
 have b3: ∀b,b<W1.heap.size->W2.heap[b]? =W1.heap[b]? :=λb hb=>by rw [KJ];exact (dC.alloc W1 _ _).ql b hb
 have b4:Rest W1 W2:=by rw [KJ];exact .alloc _ _ _
 refine wp_seq (wp_region ?_);rw [show OF (#[o 2,o 3]:Array Oper).size=[0,1] from rfl];refine aM.step rfl H.ops.h2 (by decide) (Hn H.ops.h2 hjP hzP _) (λa aM=> ?_);obtain ⟨W3,hW3⟩: ∃W3,W3=W2.alloc (.cells zP.cells n.tP):=⟨_,rfl⟩
 rw [<-hW3];have c1:W3.heap[W2.heap.size]? =some (.cells zP.cells n.tP (0,0)):=by rw [hW3];exact gG W2 _
 have c2:W3.heap.size=W2.heap.size+1:=by rw [hW3];simp
 have c3: ∀b,b<W2.heap.size->W3.heap[b]? =W2.heap[b]? :=λb hb=>by rw [hW3];exact (dC.alloc W2 _ _).ql b hb
 have c4:Rest W2 W3:=by rw [hW3];exact .alloc _ _ _
 refine aM.IL rfl H.ops.h3 (xP (v:= .pointer (some ⟨w0.heap.size,0,none⟩)) (g:=W2.heap.size) (off:=0) H.ops.h3 (H.hT _ _ hPi) hPc rfl rfl (by simp [abX,p3]) (by simp [abX,acn]) c1 (by rw [alw];omega)) ?_;obtain ⟨W4,hW4⟩: ∃W4,W4=W3.setRow W2.heap.size (zP.cells.toList.take 0++(aaf (some ⟨w0.heap.size,0,none⟩)).cells.toList++zP.cells.toList.drop (0+IP.size)).toArray:=⟨_,rfl⟩
 rw [<-hW4];have d1:W4.heap[W2.heap.size]? =some (.cells [aaf (some ⟨w0.heap.size,0,none⟩)].toArray n.tP (0,0)):=by
  rw [hW4,qC _ c1];have:zP.cells.toList.drop (0+IP.size)=[]:=by rw [acw,ab8];rw [ab6,alw];exact IT _
  rw [this];simp [abX]
 have d2:W4.heap.size=W3.heap.size:=by rw [hW4,setRow_size]
 have d3: ∀b,b≠W2.heap.size->W4.heap[b]? =W3.heap[b]? :=λb hb=>by rw [hW4];exact setRow_other _ _ _ _ hb
 have d4:Rest W3 W4:=by rw [hW4];exact .setRow _ _ _
 have e1:W4.heap[w0.heap.size]? =some (.cells (u.vs s0).toArray n.tS (0,0)):=by rw [d3 _ (by omega),c3 _ (by omega),b3 _ (by omega)];exact a1
 have e2:W4.heap[W1.heap.size]? =some (.cells zS.cells n.tS (0,0)):=by rw [d3 _ (by omega),c3 _ (by omega)];exact b1
 have e3: ∀b,b<w0.heap.size->W4.heap[b]? =w0.heap[b]? :=λb hb=>by rw [d3 _ (by omega),c3 _ (by omega),b3 _ (by omega),a3 b hb]
 have e4:Rest w0 W4:=((a4.trans b4).trans c4).trans d4;have e5:qi φ0 W4:=ad0 lV e3;refine wp_seq (wp_region ?_);rw [show OF (#[o 4,o 5,o 6,o 7,o 8,o 9,o 10]:Array Oper).size=[0,1,2,3,4,5,6] from rfl];refine aM.step rfl H.ops.h4 (by decide) (z6 (g:=w0.heap.size) (off:=0) (q:=4) H.ops.h4 H.hT s1 s2 (by rw [s3];rfl) rfl _) (λa aM=> ?_);refine aM.step (v:=u.n) rfl H.ops.h5 (by decide) (ko H.ops.h5 (eT (g:=w0.heap.size) (off:=0+4) H.hT n1 n2 n3 (by rw [cell_of e1];rfl))) (λa aM=> ?_);have hcc:=Bd (W:=W4) (φ:=φ0) (vs:=[u.n]) (g:=n.fCl) (by rw [H.key];exact H.gv.1) (H.snd _ _ _ hgc) rfl ⟨_,_,rfl,⟨rfl,We⟩,rfl⟩ e5;refine aM.call rfl H.ops.h6 (by decide) (adM H.ops.h6 rfl rfl _) hcc ?_;rintro x W5 a ⟨φ5,t5,m5,jD⟩ aM;have jD:cK c (bJ.plain λb=>W4.heap.size<=b) (ou c.key φ5) W5 x ⟨n.ty,false,nl⟩:=by have jD:cK c (bJ.plain λb=>W4.heap.size<=b) (ou c.key φ5) W5 x ⟨c.nM (c.key n.fCl),false,nl⟩:=jD;rw [H.key,H.nM] at jD;exact jD
 have Oj: ∀b,x.ownBlock=some b->W4.heap.size<=b/\b<W5.heap.size:=by obtain ⟨I,cells,q1,q2,q3,q4,q5⟩:=jD.row;exact λb hb=>⟨(q5 b hb).1,NC q3 hb⟩
 have afL:x.oneCell'=true:=by obtain ⟨I,cells,q1,q2,q3,q4,q5⟩:=jD.row;rcases q3.2 with ⟨h1,_⟩|⟨g,cap,fB,h1,_⟩<;>rw [h1]<;>rfl
 have f1: ∀b,b<W4.heap.size->W5.heap[b]? =W4.heap[b]? :=λb hb=>t5.heap b (by omega) hb;have g1:W5.heap[w0.heap.size]? =some (.cells (u.vs s0).toArray n.tS (0,0)):=by rw [f1 _ (by omega)];exact e1
 refine aM.step rfl H.ops.h7 (by decide) (z6 (g:=w0.heap.size) (off:=0) (q:=5) H.ops.h7 H.hT s1 s2 (by rw [s3];rfl) rfl _) (λa aM=> ?_);refine aM.IL rfl H.ops.h8 (xP (v:= .slice none 0 0) (g:=w0.heap.size) (off:=0+5) H.ops.h8 (H.hT _ _ hMi) hMc rfl rfl (by simp [abX,m3]) (by simp [abX,acn]) g1 (by rw [m3];exact IT 6)) ?_;obtain ⟨W6,hW6⟩: ∃W6,W6=W5.setRow w0.heap.size ((u.vs s0).toArray.toList.take (0+5)++(adQ none 0 0).cells.toList++(u.vs s0).toArray.toList.drop (0+5+IM.size)).toArray:=⟨_,rfl⟩
 rw [<-hW6];have g2:W6.heap[w0.heap.size]? =some (.cells #[.int .i64 s0.F,.int .i64 s0.T,u.b,u.w,u.n,.slice none 0 0] n.tS (0,0)):=by rw [hW6,qC _ g1,m3];rfl
 have g3:W6.heap.size=W5.heap.size:=by rw [hW6,setRow_size]
 have g4: ∀b,b≠w0.heap.size->W6.heap[b]? =W5.heap[b]? :=λb hb=>by rw [hW6];exact setRow_other _ _ _ _ hb
 have g5:Rest W5 W6:=by rw [hW6];exact .setRow _ _ _
 refine aM.step rfl H.ops.h9 (by decide) (z6 (g:=w0.heap.size) (off:=0) (q:=4) H.ops.h9 H.hT s1 s2 (by rw [s3];rfl) rfl _) (λa aM=> ?_);have hxc:x.cells.toList=[x]:=WH afL;refine aM.IL rfl H.ops.NV (xP (v:=x) (g:=w0.heap.size) (off:=0+4) H.ops.NV (H.hT _ _ hNi) hNc rfl rfl (by rw [hxc,n3];rfl) (by rw [hxc];simpa using afL) g2 (by rw [n3];exact Nat.le_succ 5)) ?_;rw [hxc];obtain ⟨W7,hW7⟩: ∃W7,W7=W6.setRow w0.heap.size ((#[.int .i64 s0.F,.int .i64 s0.T,u.b,u.w,u.n,.slice none 0 0]:Array Value).toList.take (0+4)++[x]++(#[.int .i64 s0.F,.int .i64 s0.T,u.b,u.w,u.n,.slice none 0 0]:Array Value).toList.drop (0+4+IN.size)).toArray:=⟨_,rfl⟩
 rw [<-hW7];have k1:W7.heap[w0.heap.size]? =some (.cells #[.int .i64 s0.F,.int .i64 s0.T,u.b,u.w,x,.slice none 0 0] n.tS (0,0)):=by rw [hW7,qC _ g2,n3];rfl
 have k2:W7.heap.size=W6.heap.size:=by rw [hW7,setRow_size]
 have k3: ∀b,b≠w0.heap.size->W7.heap[b]? =W6.heap[b]? :=λb hb=>by rw [hW7];exact setRow_other _ _ _ _ hb
 have k4:Rest W6 W7:=by rw [hW7];exact .setRow _ _ _
 have avR:=t5.size;have y2: ∀b,b<W5.heap.size->b≠w0.heap.size->W7.heap[b]? =W5.heap[b]? :=λb hb db=>by rw [k3 b db,g4 b db]
 have hφ5: ∀b o,b<W4.heap.size->φ5 b o=φ0 b o:=λb o hb=>t5.free b o (by omega);have q1:W1.heap.size=w0.heap.size+1:=a2;have q2:W2.heap.size=w0.heap.size+2:=by omega
 have q4:W4.heap.size=w0.heap.size+3:=by omega
 refine hQ a W7 _ x φ5 aM rfl (by show aaf (some ⟨W1.heap.size,0,none⟩)=_;rw [q1]) (by show aaf (some ⟨W2.heap.size,0,none⟩)=_;rw [q2]) ⟨k1,⟨zS.cells,?_,by rw [ap9,s4]⟩,?_,λb hb=> ?_,(((e4.trans t5.rest).trans g5).trans k4),by omega,?_,?_,t5.ph,λb o hb=>hφ5 b o (by omega)⟩
 ·rw [<-q1,y2 _ (by omega) (by omega),f1 _ (by omega)];exact e2
 ·rw [<-q2,y2 _ (by omega) (by omega),f1 _ (by omega)];exact d1
 ·rw [y2 b (by omega) (by omega),f1 b (by omega)];exact e3 b hb
 ·exact jD.afK (λb hb=>by have:=(Oj _ hb).1;omega) (.refl _) (λ_ _ _=>rfl) (λb hb _=>y2 b (Oj _ hb).2 (by have:=(Oj _ hb).1;omega))
 ·intro b o v hv;by_cases db:b=w0.heap.size
  ·rw [db,hφ5 _ o (by omega),aam lV (IT _) o] at hv;cases hv
  ·exact tq (m5 b o v hv) λhl=>y2 b hl db
theorem ad1 (H:nH P c g n fn r o)(aqb:0<n.sz){ms:List MV}{res:MV}(hm:U1 g n.k ms=some res):jV P c n.f ms res:=by
 unfold U1 at hm;split at hm;rotate_left
 ·cases hm
 rename_i ls;cases xA:Td ls with
 |none=>rw [xA] at hm;cases hm
 |some s0=>
 rw [xA] at hm;dsimp only at hm;rw [Mp xA];cases hS:Mn g n.k s0 with
 |none=>rw [hS] at hm;cases hm
 |some s'=>
 rw [hS] at hm;simp only [AT] at hm;subst hm;unfold Mn at hS;cases qh:E5 g n.k s0.nl with
 |none=>rw [qh] at hS;cases hS
 |some nl=>
 cases hb:Bz s0.bl with
 |none=>rw [qh,hb] at hS;cases hS
 |some bs=>
 rw [qh,hb] at hS;dsimp only at hS;have hgc:g n.fCl [.list s0.nl]=some (.fresh nl):=by
  unfold E5 at qh;split at qh
  ·rename_i l hl;simp only [AT] at qh;subst qh;exact hl
  ·cases qh
 intro φ0 w0 Z0 vs hz0 fY lV;simp only [fC,H.key,H.gvF,acm,if_false] at fY;obtain ⟨x,rest,rfl,hx,vj⟩:=fY;have vj:rest=[]:=vj;subst vj;obtain ⟨u,rfl,hub,huw,We,hup⟩:=aal hx;refine (zZ (R:=λx W=>adY c n φ0 w0 s' x W) H.pos H.name H.body (calls_of_wp H.pos H.body ?_)).imp ?_;rotate_left
 ·rintro x W ⟨φ',t1,t2,t3⟩;exact ⟨φ',t1.F6 hz0,t2,t3⟩
 rw [H.tmps];obtain ⟨Ii,i1,i2,i3⟩:=H.tyi;obtain ⟨hii,hic⟩:=bB i1;obtain ⟨ji,zi,Ma,hsi,_,hzi,alC⟩:=lp (H.hT _ _ hii) hic;have key: ∀a:Act,Tm a 52 (zY (λ_=>undef) 0 (.agg (u.vs s0).toArray))->(IW r o).wp P (bodyPost P fn λe W=> ∃v,e= .returned v/\adY c n φ0 w0 s' v W) a w0:=by
  intro a aM;unfold IW;refine aan H lV We hgc aM ?_;clear aM;intro a W7 σ x φ5 aM hσ1 hσ2 hσ3 WI;have k1:=WI.k1;have Oj: ∀b,x.ownBlock=some b->w0.heap.size+3<=b/\b<W7.heap.size:=by obtain ⟨I,cells,q1,q2,q3,q4,q5⟩:=WI.iy.row;exact λb hb=>⟨(q5 b hb).1,NC q3 hb⟩
  have qm:=WI.sz;refine wp_seq (wp_region ?_);rw [show OF (#[o 11,o 12]:Array Oper).size=[0,1] from rfl];refine aM.step rfl H.ops.Hm (by decide) (Hn H.ops.Hm Ma hzi _) (λa aM=> ?_);obtain ⟨W8,hW8⟩: ∃W8,W8=W7.alloc (.cells zi.cells n.ti):=⟨_,rfl⟩
  rw [<-hW8];have l1:W8.heap[W7.heap.size]? =some (.cells zi.cells n.ti (0,0)):=by rw [hW8];exact gG W7 _
  have l2:W8.heap.size=W7.heap.size+1:=by rw [hW8];simp
  have l3: ∀b,b<W7.heap.size->W8.heap[b]? =W7.heap[b]? :=λb hb=>by rw [hW8];exact (dC.alloc W7 _ _).ql b hb
  have l4:Rest W7 W8:=by rw [hW8];exact .alloc _ _ _
  refine aM.IL rfl H.ops.S5 (xP (v:= .int .i64 0) (g:=W7.heap.size) (off:=0) H.ops.S5 (H.hT _ _ hii) hic rfl rfl (by simp [abX,i3]) (by simp [abX,acn]) l1 (by rw [alC];omega)) ?_;obtain ⟨W9,hW9⟩: ∃W9,W9=W8.setRow W7.heap.size (zi.cells.toList.take 0++(Value.int .i64 0).cells.toList++zi.cells.toList.drop (0+Ii.size)).toArray:=⟨_,rfl⟩
  rw [<-hW9];have o1:wN W9 W7.heap.size 0:=by
   refine ⟨n.ti,?_⟩;rw [hW9,qC _ l1];have:zi.cells.toList.drop (0+Ii.size)=[]:=by rw [acw,ab8];rw [ab6,alC];exact IT _
   rw [this];simp [abX]
  have o2:W9.heap.size=W8.heap.size:=by rw [hW9,setRow_size]
  have o3: ∀b,b<W7.heap.size->W9.heap[b]? =W7.heap[b]? :=λb hb=>by rw [hW9,setRow_other _ _ _ _ (by omega)];exact l3 b hb
  have o4:Rest W8 W9:=by rw [hW9];exact .setRow _ _ _
  have y1:W9.heap[w0.heap.size]? =some (.cells ((Six.mk u.b u.w x (.slice none 0 0)).vs ⟨s0.F,s0.T,s0.bl,s0.wl,nl,[]⟩).toArray n.tS (0,0)):=by rw [o3 _ (by omega)];exact k1
  have y3: ∀b,b<w0.heap.size->W9.heap[b]? =w0.heap[b]? :=λb hb=>by rw [o3 b (by omega)];exact WI.ql b hb
  have y4:W9.heap[w0.heap.size+2]? =some (.cells [aaf (some ⟨w0.heap.size,0,none⟩)].toArray n.tP (0,0)):=by rw [o3 _ (by omega)];exact WI.bd
  obtain ⟨zc,y5,y5s⟩:=WI.br;have y5:W9.heap[w0.heap.size+1]? =some (.cells zc n.tS (0,0)):=by rw [o3 _ (by omega)];exact y5
  have y6:Rest w0 W9:=(WI.rest.trans l4).trans o4;have hφN: ∀b o,w0.heap.size<=b->b<w0.heap.size+3->φ5 b o=none:=λb o h1 h2=>by rw [WI.ph b o h2];exact aam lV h1 o
  have hle:=Oc (φ:=φ5) (b:=w0.heap.size+2) (vs:=[aaf (some ⟨w0.heap.size,0,none⟩)]) λo=>hφN _ o (by omega) (by omega);have hph: ∀b o,b≠w0.heap.size+2->Ob φ5 (w0.heap.size+2) [aaf (some ⟨w0.heap.size,0,none⟩)] b o=φ5 b o:=λb o hb=>by unfold Ob;rw [if_neg hb]
  have aqe:qi φ5 W9:=λb o v hv=>tq (WI.kE b o v hv) λhl=>o3 b hl;have aao:=(WI.le.trans hle)
  have Sr:jo c.key (Ob φ5 (w0.heap.size+2) [aaf (some ⟨w0.heap.size,0,none⟩)]) [adQ none 0 0] (.list []):= .list none 0 [] 0 0 0 (λ_=>[]) (by simp) (by simp) (by simp) (by simp) (by simp);have sF:Mm c (λb=>b=w0.heap.size\/x.ownBlock=some b) (Ob φ5 (w0.heap.size+2) [aaf (some ⟨w0.heap.size,0,none⟩)]) W9 w0.heap.size n.ty ⟨s0.F,s0.T,s0.bl,s0.wl,nl,[]⟩ ⟨u.b,u.w,x,.slice none 0 0⟩:=by refine ⟨⟨_,y1⟩,.inl rfl,λo=>by rw [hph _ o (by omega)];exact hφN _ o (IT _) (by omega),hub.mono aao,huw.mono aao,Sr,?_,λhe=>by have:=(Oj _ he).1;omega⟩;exact WI.iy.afK (λb hb=> .inr hb) hle (λb o hb=>hph b o (by have:=(Oj _ hb).1;omega)) (λb hb hl=>o3 b hl)
  have hI:Be c n φ0 w0 (Ob φ5 (w0.heap.size+2) [aaf (some ⟨w0.heap.size,0,none⟩)]) w0.heap.size W7.heap.size (w0.heap.size+1) ⟨s0.F,s0.T,s0.bl,s0.wl,nl,[]⟩ 0 W9:=by
   refine ⟨_,_,sF.cell,Od aqe y4,⟨aao,λb hb hl=>y3 b hl,λb o hb=> ?_,by omega,y6⟩,.refl _,?_,o1,?_,λo=> ?_,by omega,⟨zc,n.tS,y5,y5s⟩,?_,λo=> ?_,by omega,by omega⟩
   ·rw [hph b o (by omega)];exact WI.ph b o (by omega)
   ·rintro b (rfl|hb)
    ·exact IT _
    ·have:=(Oj _ hb).1;omega
   ·rintro (hb|hb)
    ·omega
    ·have:=(Oj _ hb).2;omega
   ·rw [hph _ o (by omega)];exact aam WI.kE (IT _) o
   ·rintro (hb|hb)
    ·omega
    ·have:=(Oj _ hb).1;omega
   ·rw [hph _ o (by omega)];exact hφN _ o (by omega) (by omega)
  exact adZ H aqb hI (bd:=w0.heap.size+2) (by simp [Ob]) aM ⟨hσ1,hσ2,hσ3,rfl⟩ hb hS
 exact key _ (tm1 _ 51)
end
end Dn
/-
  One function that is handed a variable in two ways. Conditions: none.
-/
namespace Dn
open Go
abbrev ad2 (n:Nat)(g:Nat->List MV->Option MV):Nat->List MV->Option MV:=λk ms=>match No k n with|true=>none|false=>g k ms
structure Ga (k0:Nat) (c c':Ctx):Prop where
 ti:c'.ti=c.ti
 key:c'.key=c.key
 eN:c'.eN=c.eN
 fresh:c'.fresh=c.fresh
 nM:c'.nM=c.nM
 sig: ∀k,k≠k0->c'.sig k=c.sig k
theorem iz.BV {k0:Nat} {c c':Ctx}(h:Ga k0 c c'){Z:Nat->Prop} {φ:Ph}{w:World}{k:Nat}{v:Value}{r:MV}(hs:iz c Z φ w k v r):iz c' Z φ w k v r:=by
 cases r<;>simp only [iz,h.key,h.nM] at hs⊢ <;>first|exact hs|exact hs.lf h.ti|skip
 rename_i ms;cases ms with
 |nil=>simp only [KU,h.key] at hs⊢;exact hs
 |cons m r=>
  cases m<;>simp only [KU,h.key,h.nM] at hs⊢ <;>first|exact hs|skip
  obtain ⟨v0,us,h1,h2,h3⟩:=hs;exact ⟨v0,us,h1,h2.lf h.ti,h3⟩
theorem gq.BV {k0:Nat} {c c':Ctx}(h:Ga k0 c c'){Z:Nat->Prop} {φ:Ph}{w:World}{bq:Nat}{ks:List LK}{ls:List MV}(hs:gq c Z φ w bq ks ls):gq c' Z φ w bq ks ls:=by obtain ⟨cs,m,E,arr,T,h1,h2,h3,h4,h5,h6,h7⟩:=hs;refine ⟨cs,m,E,arr,T,h1,h2,h3,h4,by rw [h.key];exact h5,λf o ho=>⟨?_,(h6 f o ho).2⟩,h7⟩;rw [h.key];exact (h6 f o ho).1.lf h.ti
theorem u9.BV {k0:Nat} {c c':Ctx}(h:Ga k0 c c'){Z:Nat->Prop} {φ:Ph}{w:World}{k:Nat}(hk:k≠k0){vs:List Value}{v:Value}{r:MV}(hs:u9 c Z φ w k vs v r):u9 c' Z φ w k vs v r:=by
 cases r<;>simp only [u9] at hs⊢ <;>first|exact hs.BV h|skip
 obtain ⟨h1,pos,ks,bq,off,h2,h3,h4⟩:=hs;exact ⟨h1.BV h,pos,ks,bq,off,by rw [h.sig k hk];exact h2,h3,h4.BV h⟩
theorem fC.BV {k0:Nat} {c c':Ctx}(h:Ga k0 c c'){Z:Nat->Prop} {φ:Ph}{w:World}{k:Nat}(hk:k≠k0){vs:List Value}{ms:List MV}(hs:fC c' Z φ w k vs ms):fC c Z φ w k vs ms:=by
 unfold fC at hs⊢;rw [h.eN] at hs;split
 ·rename_i hg;rw [if_pos hg] at hs;rcases hs with ⟨v0,v1,v2,xs,m1,ys,h1,h2,h3,h4,h5,h6⟩|⟨v0,v1,v2,xs,m1,m2,h1,h2,h3,h4,h5,h6⟩|⟨pos,ks,off,ls,bq,h1,h2,h3,h4,h5⟩
  ·rw [h.key,h.nM] at h3 h5;rw [h.key] at h4;exact .inl ⟨v0,v1,v2,xs,m1,ys,h1,h2,h3.lf h.ti.symm,h4,h5.lf h.ti.symm,h6⟩
  ·rw [h.key,h.nM] at h4;rw [h.key] at h5 h6;exact .inr (.inl ⟨v0,v1,v2,xs,m1,m2,h1,h2,h3,h4.lf h.ti.symm,h5,h6⟩)
  ·refine .inr (.inr ⟨pos,ks,off,ls,bq,by rw [<-h.sig k hk];exact h1,h2,h3,by rw [<-h.key];exact h4,?_⟩);obtain ⟨cs,m,E,arr,T,k1,k2,k3,k4,k5,k6,k7⟩:=h5;refine ⟨cs,m,E,arr,T,k1,k2,k3,k4,by rw [<-h.key];exact k5,λf o ho=>⟨?_,(k6 f o ho).2⟩,k7⟩;rw [<-h.key];exact (k6 f o ho).1.lf h.ti.symm
 ·rename_i hg;rw [if_neg hg,h.key] at hs;exact hs
theorem jV.BV {P:Program}{k0:Nat} {c c':Ctx}{f:Nat}{ms:List MV}{r:MV}(h:Ga k0 c c')(hk:c.key f≠k0)(hs:jV P c f ms r):jV P c' f ms r:=by intro φ w Z vs hz ha hi;rw [h.key] at ha;refine (hs φ w Z vs hz (ha.BV h hk) hi).mono ?_;rintro v w' ⟨φ',h1,h2,h3⟩;rw [h.key];exact ⟨φ',h1,h2,h3.BV h hk⟩
theorem dD.alt {P:Program}{k0:Nat} {c c':Ctx}{g:Nat->List MV->Option MV}(h:dD P c g)(hl:Ga k0 c c'):dD P c' (ad2 k0 g):=by
 refine ⟨λf ms r hr=> ?_⟩;rw [hl.key] at hr;unfold ad2 at hr;cases hk:No (c.key f) k0 with
 |true=>simp only [hk] at hr;cases hr
 |false=>simp only [hk] at hr;refine (h.all f ms r hr).BV hl (λhe=> ?_);rw [he,Nat.beq_refl] at hk;cases hk
end Dn
/-
  Going through a map, in whatever order; a label at the end of a scope. Conditions: none.
-/
namespace Dn
noncomputable section
open Go
def xR {R:Type}(x:Option (Sum Unit R)):Bool:=match x with|some (.inl _)=>true|_=>false
def uc {α R:Type}(f:α->Option (Sum Unit R))(d:Option R):List α->Option R
 |[]=>d
 |x::xs=>match f x with
  |some (.inl _)=>uc f d xs
  |some (.inr r)=>bif xs.all λy=>xR (f y) then some r else none
  |none=>none
structure X2 where
 i1:Nat
 o1:Array Oper
 a1:Oper
 b1:Oper
 x:Operand
 d1:Nat
 t:Nat
 d2:Nat
 k:Nat
 i2:Nat
 o2:Array Oper
 a2:Oper
 r2:List Oper
 cx:Operand
 kx:Nat
 k5:Nat
 i3:Nat
 o3:Array Oper
 a3:Oper
 r3:List Oper
 rest:Code
def X2.body (q:X2):Code:= .seq (.region q.i2 q.o2 false) (.seq (.cond q.cx .skip (.exit q.kx)) (.block q.k5 (.seq (.region q.i3 q.o3 false) q.rest)))
def X2.code (q:X2):Code:= .seq (.region q.i1 q.o1 false) (.block q.k (.loop q.body))
def isNone {α:Type}:Option α->Bool
 |none=>true
 |some _=>false
def alG (o:Oper):Option Operand:=match o.op with| .move x=>some x|_=>none
def alH (o:Oper)(d:Nat):Option Nat:=match o.op with| .range t (.tmp y)=>bif No y d then some t else none|_=>none
def ahv (o:Oper)(d:Nat):Bool:=match o.op with| .next (.tmp y) false=>No y d|_=>false
def ahw (o:Oper)(d:Nat):Bool:=match o.op with| .entry (.tmp y)=>No y d|_=>false
def U4 (code:Code):Option X2:=match code with
 | .seq (.region i1 o1 false) (.block k (.loop (.seq (.region i2 o2 false) (.seq (.cond cx .skip (.exit kx)) (.block k5 (.seq (.region i3 o3 false) rest))))))=>
  (match o1.toList,o2.toList,o3.toList with
  |[a1,b1],a2::r2,a3::r3=>(match alG a1,a1.dst,b1.dst with
   |some x,some d1,some d2=>(match alH b1 d1 with
    |some t=>bif ahv a2 d2&&(ahw a3 d2&&(isNone a1.guard&&(isNone b1.guard&&(isNone a2.guard&&isNone a3.guard)))) then
     some ⟨i1,o1,a1,b1,x,d1,t,d2,k,i2,o2,a2,r2,cx,kx,k5,i3,o3,a3,r3,rest⟩ else none
    |none=>none)
   |_,_,_=>none)
  |_,_,_=>none)
 |_=>none
def Qq {R:Type}(m:MV)(K:List UInt8->Int->Option R):Option R:=gT m λl=>gC l λka r=>gA ka λks=>gC ks λk0 kr=>gN kr<|gS k0 λkey=>gC r λv0 vr=>gN vr<|gI .i64 v0 λn=>K key n
def ad3 (c:Ctx)(q:X2)(st:St)(m:MV):Option (Sum Unit (Nat×List MV)):=Qq m λkey n=>bu c st q.a2.dst (.dH [.sc (.p (.b true)),.sc (.p (.s key)),.sc (.p (.i .i64 n))]) λst=>Ce c q.o2.toList q.r2 st λst=>(match aN c st q.cx with
  | .sc (.p (.b true))=>bu c st q.a3.dst (.dH [.sc (.p (.s key)),.sc (.p (.i .i64 n))]) λst=>Ce c q.o3.toList q.r3 st λst=>kZ c q.rest (Sum Unit (Nat×List MV)) st λe st=>bif No e 0||No e (q.k5+2) then some (.inl ()) else mg st [] ((c.wv q.i2).ex e) λvs=>some (.inr (e,vs))
  |_=>none)
def ahx (c:Ctx)(q:X2)(st:St):Option (Nat×List MV):=bu c st q.a2.dst (.dH [.sc (.p (.b false))]) λst=>Ce c q.o2.toList q.r2 st λst=>(match aN c st q.cx with
  | .sc (.p (.b false))=>mg st [] ((c.wv q.i2).ex (q.kx+2)) λvs=>some (q.kx+2,vs)
  |_=>none)
def ahy (c:Ctx)(q:X2){R:Type}(st:St)(K:Nat->St->Option R):Option R:=bu c st (some q.d1) (aN c st q.x) λst=>match aN c st (.tmp q.d1),vQ c q.t with
  | .zm root,some s0=>(match av st.fr root with
   | .box [.mp s _]=>bif yD root||!msB s s0 then none else
    bu c st (some q.d2) (.sc .un) λst=>Cf c (c.wv q.i2) st λ_ dM=>(match (c.wv q.i2).outs,av dM.fr root with
     |[],.box [.mp s2 es]=>bif s2.st||(!C9 s2.lay [.s]||(s2.b||!bI dM.cz q.d2)) then none else
      bd (uc (ad3 c q dM) (ahx c q dM) es) λr=>VD (minus (lC q.body) [0]) r.1 λe=>nw (vR st dM) ((c.wv q.i2).ex e) r.2 λst=>K (bif No e (q.k+2) then 0 else e) st
     |_,_=>none)
   |_=>none)
  |_,_=>none
def aap (a b:Code):Option Nat:=match a,b with
 | .goto l,.skip=>some l
 |_,_=>none
def IY (c:Ctx){R:Type}(l:Nat)(G:St->Option R):Code->St->(Nat->St->Option R)->Option R
 | .seq a b,st,K=>IY c l G a st λe st=>bif No e 0 then IY c l G b st K else K e st
 | .cond x a b,st,K=>(match aap a b with
  |some l'=>bif No l' l then (match aN c st x with| .sc (.p (.b v))=>bG v (G st) (K 0 st)|_=>none) else none
  |none=>kZ c (.cond x a b) R st K)
 | .label _,st,K=>K 0 st
 |code,st,K=>kZ c code R st K
def Gb (c:Ctx){R:Type}:Code->St->(Nat->St->Option R)->Option R
 | .seq a b,st,K=>(match U4 a with
  |some q=>ahy c q st λe st=>bif No e 0 then Gb c b st K else K e st
  |none=>kZ c a R st λe st=>bif No e 0 then Gb c b st K else K e st)
 | .scope b,st,K=>(match findLabel b 0 with
  |some rest=>IY c 0 (λst=>kZ c rest R st K) b st K
  |none=>none)
 |code,st,K=>kZ c code R st K
def Qr (c:Ctx)(dh:List (List Kd))(fresh:Option Nat)(f:Func)(args:List MV):Option MV:=Up (λb st K=>Gb c b st K) c dh fresh f args
theorem Qs {α R:Type}{f:α->Option (Sum Unit R)}{d:Option R}{r:R}: ∀{es:List α},uc f d es=some r->(∀m∈es,f m=some (.inl ())\/f m=some (.inr r))/\((∀m∈es,f m=some (.inl ()))->d=some r):=by
 intro es;induction es with
 |nil=>intro h;exact ⟨by simp,λ_=>h⟩
 |cons x xs ih=>
  intro h;simp only [uc] at h;split at h
  ·rename_i u hx;obtain ⟨h1,h2⟩:=ih h;refine ⟨λm hm=> ?_,λhm=>h2 λm hx=>hm m (List.mem_cons_of_mem _ hx)⟩;rcases adC.1 hm with rfl|hm
   ·exact .inl hx
   ·exact h1 m hm
  ·rename_i r' hx;cases ha:xs.all λy=>xR (f y) with
   |false=>rw [ha] at h;cases h
   |true=>
    rw [ha] at h;simp only [cond_true,AT] at h;subst h;refine ⟨λm hm=> ?_,λhm=> ?_⟩
    ·rcases adC.1 hm with rfl|hm
     ·exact .inr hx
     ·rw [adn] at ha;have:=ha m hm;unfold xR at this;split at this
      ·rename_i u hu;exact .inl hu
      ·cases this
    ·have:=hm x (by simp);rw [hx] at this;cases this
  ·cases h
section
variable {P:Program}{c:Ctx}{Z Zb Zi:bJ} {e e' e3:Env}{st bU pi B:St} {a a':Act} {w w':World}{R:Type}{r:R}{Q:Exit->Act->World->Prop}{o:Oper}{hn:pa}
def bJ.cv (Z:bJ)(g:Nat):bJ:={Z with In:=λb=>Z.In b/\b≠g}
theorem kI.alI {g:Nat}(j:kI c Zb Zi e B hn a w)(hg:g<w.heap.size):kI c Zb (Zi.cv g) e B hn a w:=⟨j.tV,λb hb=>j.sub b hb.1,λb hb=>⟨j.new b hb,by omega⟩,j.cz,j.T,j.keys,λt cs ht hz=>j.box t cs ht hz.1,λf o b ho hb hz=>j.iy f o b ho hb hz.1,j.Zo,j.Wa,j.ptr,j.XW⟩
theorem kI.afM {g:Nat}(j:kI c Zi Zi e B hn a w)(hg:g<w.heap.size):bX c (Zi.cv g) e B a w:=by
 have h:=j.tV;have hm:e.m=B.bo:=h.m;have:=h.sub (Zi:=Zi.cv g) (bU:=B) (λ_ h=>h) ⟨h.defers.2.1,h.defers.2.2.1,h.defers.2.2.2⟩ h.nodup (λt=> .inr ⟨j.ptr t,.inl rfl⟩) (λf o ho=>⟨o,ho,rfl,rfl,id⟩) (by
   intro t cs ht;have hs:=h.slot t;rw [ht] at hs;rcases hs.2.cB with h1|h1
   ·exact .inl h1
   ·exact absurd h1 (j.box t cs ht))
  (by
   intro f o b ho hb;obtain ⟨I,cells,_,_,_,_,g5⟩:=(h.iy f o ho).row;rcases (g5 b hb).1 with h1|h1
   ·exact .inl h1
   ·exact absurd h1 (j.iy f o b ho hb))
  (by intro f o I cells b ho hp hz hI eQ hb k hk;obtain ⟨I',Ny,g1,_,g3,_,g5⟩:=(h.iy f o ho).row;rw [hI] at g1;cases g1;rw [u5 eQ g3 hb] at hk⊢;exact (g5 b hb).2.2 hp hz k hk)
  (λb hb=>⟨j.new b hb,by omega⟩)
 have he:{e with m:=B.bo}=e:=by cases e;simp at hm⊢;exact hm.symm
 rw [he] at this;exact this
theorem Ok {d:Nat}{s:Slot}{K:St->Option R}(hK:bu c st (some d) s K=some r):dg (av st.fr d)=false/\d∉st.cz/\d<c.n:=by
 simp only [bu] at hK;cases tR:yD d||(acj c.n d||dg (av st.fr d)) with
 |true=>simp [tR] at hK
 |false=>
  obtain ⟨_,hb⟩:=ab1.1 tR;obtain ⟨uO,qV⟩:=ab1.1 hb;simp only [tR,cond_false,wr] at hK;cases hp:bI st.cz d with
  |true=>simp [hp] at hK
  |false=>
   refine ⟨qV,λhm=> ?_,?_⟩
   ·rw [<-bH,hp] at hm;cases hm
   ·by_cases hh:d<c.n
    ·exact hh
    ·rw [acg (by omega)] at uO;cases uO
theorem Th {code:Code}{q:X2}(h:U4 code=some q):code=q.code/\q.o1.toList=[q.a1,q.b1]/\q.o2.toList=q.a2::q.r2/\q.o3.toList=q.a3::q.r3/\q.a1.op= .move q.x/\q.a1.dst=some q.d1/\ q.b1.op= .range q.t (.tmp q.d1)/\q.b1.dst=some q.d2/\q.a2.op= .next (.tmp q.d2) false/\q.a3.op= .entry (.tmp q.d2)/\q.a1.guard=none/\q.b1.guard=none/\q.a2.guard=none/\q.a3.guard=none:=by
 have hN: ∀{α:Type} {x:Option α},isNone x=true->x=none:=by intro α x hx;cases x<;>first|rfl|cases hx
 unfold U4 at h;split at h
 ·rename_i i1 o1 k i2 o2 cx kx k5 i3 o3 rest;split at h
  ·rename_i a1 b1 a2 r2 a3 r3 e1 e2 e3;split at h
   ·rename_i x d1 d2 g1 g2 g3;split at h
    ·rename_i t g4;cases hb:ahv a2 d2&&(ahw a3 d2&&(isNone a1.guard&&(isNone b1.guard&&(isNone a2.guard&&isNone a3.guard)))) with
     |false=>rw [hb] at h;cases h
     |true=>
      rw [hb] at h;simp only [cond_true,AT] at h;subst h;simp only [aca] at hb;obtain ⟨k1,k2,k3,k4,k5',k6⟩:=hb;refine ⟨rfl,e1,e2,e3,?_,g2,?_,g3,?_,?_,hN k3,hN k4,hN k5',hN k6⟩
      ·unfold alG at g1;split at g1
       ·rename_i y hy;cases g1;exact hy
       ·cases g1
      ·unfold alH at g4;split at g4
       ·rename_i t' y hy;cases hyd:No y d1 with
        |false=>rw [hyd] at g4;cases g4
        |true=>rw [hyd] at g4;simp only [cond_true,AT] at g4;subst g4;rw [hy,BY hyd]
       ·cases g4
      ·unfold ahv at k1;split at k1
       ·rename_i y hy;rw [hy,BY k1]
       ·cases k1
      ·unfold ahw at k2;split at k2
       ·rename_i y hy;rw [hy,BY k2]
       ·cases k2
    ·cases h
   ·cases h
  ·cases h
 ·cases h
theorem Ti {g:Nat} {φ:Ph}{w1:World} {o o':Obj}(hz:Zi.In g)(hw:w1=w\/w1=w.drew)(ho:w.heap[g]? =some o)(hf: ∀x y z,o≠ .cells x y z)(VP: ∀x y z,o'≠ .cells x y z):Trans Zi.In φ w φ (sh w1 g o'):=by
 have hh:w1.heap=w.heap:=by rcases hw with rfl|rfl<;>rfl
 refine ⟨.refl _,λb hb hl=> ?_,λ_ _ _=>rfl,?_,?_⟩
 ·simp only [sh,hh];rw [aaT (by intro he;subst he;exact hb hz)]
 ·simp [sh,hh]
 ·refine ⟨by rcases hw with rfl|rfl<;>rfl,by rcases hw with rfl|rfl<;>rfl,by rcases hw with rfl|rfl<;>rfl,λx=> ?_⟩;unfold adD;by_cases hx:x.block=g
  ·have hl:=ba ho;have e1:(sh w1 g o').heap[x.block]? =some o':=by rw [hx];simp [sh,hh,hl]
   rw [e1,hx,ho];cases o<;>cases o'<;>first|rfl|(exfalso;exact hf _ _ _ rfl)|(exfalso;exact VP _ _ _ rfl)
  ·have e1:(sh w1 g o').heap[x.block]? =w.heap[x.block]? :=by simp only [sh,hh];rw [aaT (Ne.symm hx)]
   rw [e1]
end
end
end Dn
/-
  Going through a map, in whatever order: it does what is said. Conditions: none.
-/
namespace Dn
open Go
section
variable {P:Program}{c:Ctx}{Z Zb Zi:bJ} {e e' e3:Env}{st bU pi B:St} {a a':Act} {w w':World}{R:Type}{r:R}{Q:Exit->Act->World->Prop}{o:Oper}{hn:pa}
theorem Mr {ops:Array Oper}{i:Nat}{nx:Act->World->Prop}(hi:ops[i]? =some o)(hg:o.guard=none)(h:o.wp P a w nx Q):wpOp P ops Q i nx a w:=by
 unfold wpOp;simp only [hi];have:adG o (yielded ops a.tmps)=true:=by unfold adG;rw [hg]
 rw [this];simp only [if_true];exact .inl h
theorem Dz {id:Nat}{ops:Array Oper}{l:List Oper}{nx:Act->World->Prop}(hl:ops.toList=o::l)(hg:o.guard=none)(h:o.wp P a w nx Q)(hn: ∀a' w',nx a' w'->wpOps P ops Q ((OF l.length).map (· +1)) a' w'):(ach id ops false).wp P Q a w:=by
 refine wp_region ?_;have hs:ops.size=l.length+1:=by rw [<-ab6,hl];rfl
 rw [hs,List.range_succ_eq_map,wpOps_cons];have h0:ops[0]? =some o:=by rw [<-aaU,hl];rfl
 exact wpOp_mono hn (Mr h0 hg h)
theorem I3 {ops:Array Oper}{l:List Oper}(hl:ops.toList=o::l):((OF l.length).map (· +1)).map (ops[·]?)=l.map some:=by
 apply acd;intro i;simp only [ab5];by_cases hi:i<l.length
 ·have:ops[i+1]? =l[i]? :=by rw [<-aaU,hl];rfl
  simp [ac6 hi,this,hi]
 ·have h1:(OF l.length)[i]? =none:=by simp;omega
  have h2:l[i]? =none:=by simp;omega
  rw [h1,h2];rfl
def bJ.wd (Z:bJ)(g:Nat):bJ:={Z with In:=λb=>Z.In b\/b=g}
theorem I4 {g:Nat}{m:Option Nat}{s:Nat}{seen:Array Nat}{k:Nat}(h:bX c Z e st a w)(hg:w.heap[g]? =some (.mapIter m s seen k)): (∀t cs,av st.fr t= .box cs->e.B t≠g)/\(∀f o,aQ st.bo f=some o->(e.E f).ownBlock≠some g):=by
 refine ⟨λt cs ht he=> ?_,λf o ho he=> ?_⟩
 ·have hs:=h.slot t;rw [ht] at hs;obtain ⟨ob,h1,h2⟩:=hs.2.obj;rw [he,hg] at h1;cases h1;exact h2.elim
 ·obtain ⟨I,cells,_,_,h3,_⟩:=(h.iy f o ho).row;rcases h3.2 with ⟨h1,_⟩|⟨g',cap,fB,h1,_,h2,_⟩
  ·rw [h1] at he;cases he
  ·rw [h1] at he;simp only [Value.ownBlock,AT] at he;subst he;rw [hg] at h2;cases h2
theorem kI.wide {g:Nat}{m:Option Nat}{s:Nat}{seen:Array Nat}{k:Nat}(j:kI c Zb Zi e B hn a w)(hz:Zb.In g)(hg:w.heap[g]? =some (.mapIter m s seen k)):kI c Zb (Zi.wd g) e B hn a w:=by obtain ⟨h1,h2⟩:=I4 j.tV hg;exact ⟨j.tV,λb hb=>hb.elim (j.sub b) (λhe=>by rw [he];exact hz),λb hb=> .inl (j.new b hb),j.cz,j.T,j.keys,λt cs ht hz=>hz.elim (j.box t cs ht) (h1 t cs ht),λf o b ho hb hz=>hz.elim (j.iy f o b ho hb) (λhe=>h2 f o ho (by rw [hb,he])),j.Zo,j.Wa,j.ptr,j.XW⟩
theorem kI.aqg {g:Nat}(j:kI c Zi Zi e B hn a w):bX c (Zi.wd g) e B a w:=by
 have h:=j.tV;have hm:e.m=B.bo:=h.m;have:=h.sub (Zi:=Zi.wd g) (bU:=B) (λ_ h=>h) ⟨h.defers.2.1,h.defers.2.2.1,h.defers.2.2.2⟩ h.nodup (λt=> .inr ⟨j.ptr t,.inl rfl⟩) (λf o ho=>⟨o,ho,rfl,rfl,id⟩) (by
   intro t cs ht;have hs:=h.slot t;rw [ht] at hs;rcases hs.2.cB with h1|h1
   ·exact .inl h1
   ·exact .inr (.inl h1))
  (by
   intro f o b ho hb;obtain ⟨I,cells,_,_,_,_,g5⟩:=(h.iy f o ho).row;rcases (g5 b hb).1 with h1|h1
   ·exact .inl h1
   ·exact .inr (.inl h1))
  (by intro f o I cells b ho hp hz hI eQ hb k hk;obtain ⟨I',Ny,g1,_,g3,_,g5⟩:=(h.iy f o ho).row;rw [hI] at g1;cases g1;rw [u5 eQ g3 hb] at hk⊢;exact (g5 b hb).2.2 hp hz k hk)
  (λb hb=> .inl (j.new b hb))
 have he:{e with m:=B.bo}=e:=by cases e;simp at hm⊢;exact hm.symm
 rw [he] at this;exact this
theorem kI.alJ {g:Nat}{m:Option Nat}{s:Nat}{seen:Array Nat}{k:Nat}(j:kI c Zi Zi e B hn a w)(hg:w.heap[g]? =some (.mapIter m s seen k)):kI c (Zi.wd g) (Zi.wd g) e B hn a w:=by obtain ⟨h1,h2⟩:=I4 j.tV hg;exact ⟨j.aqg,λb hb=>hb,λb hb=> .inl (j.new b hb),j.cz,j.T,j.keys,λt cs ht hz=>hz.elim (j.box t cs ht) (h1 t cs ht),λf o b ho hb hz=>hz.elim (j.iy f o b ho hb) (λhe=>h2 f o ho (by rw [hb,he])),j.Zo,j.Wa,j.ptr,j.XW⟩
theorem Cv {k n:Nat}(h:Q (lH (bif No n (k+2) then 0 else n)) a w):aa1 k Q (lH n) a w:=by
 by_cases hk:n=k+2
 ·subst hk;simp only [eD,decide_true,cond_true] at h;simpa [lH,aa1] using h
 ·simp only [eD,hk,decide_false,cond_false] at h;match n,hk,h with
  |0,_,h=>exact h
  |1,_,h=>exact h
  |i+2,hk,h=>have hi:i≠k:=λhe=>hk (by rw [he]);simpa [lH,aa1,hi] using h
theorem Ol {α:Type}{l:List α}{i:Nat}{x:α}(h:l[i]? =some x):x∈l:=List.mem_of_getElem? h
theorem ahz (hG:Good P c)(hD:Ir P c){q:X2}{code:Code}(hq:U4 code=some q){K:Nat->St->Option R}(h:bX c Z e st a w)(hK:ahy c q st K=some r)(hQ: ∀n e' bU a' w',bX c Z e' bU a' w'->Trans Z.In e.φ w e'.φ w'->K n bU=some r->Q (lH n) a' w'):code.wp P Q a w:=by
 obtain ⟨rfl,l1,l2,l3,m1,m2,m3,m4,m5,m6,g1,g2,g3,g4⟩:=Th hq;unfold ahy at hK;unfold X2.code;refine wp_seq ?_;obtain ⟨hx,hrx⟩:=h.eval q.x;refine Dz l1 g1 (fin (v:=a.eval q.x) (s:=aN c st q.x) (by simp [execOp,m1]) h (.refl _ _ _) (.of hx hrx) (by rw [m2];exact hK)) ?_;rintro a1 w1 ⟨e1,dk,h1,t1,nP⟩;try dsimp only at nP
 obtain ⟨Nu,_⟩:=h1.eval (.tmp q.d1);split at nP
 ·rename_i root s0 XY hs0;rw [XY] at Nu;split at nP
  ·rename_i s es0 sR;cases hp:yD root||!msB s s0 with
   |true=>rw [hp] at nP;cases nP
   |false=>
    rw [hp] at nP;simp only [cond_false] at nP;simp only [ab1,adi] at hp;obtain ⟨BN,KW⟩:=hp;have KW:=SA KW;subst KW;have hit:=UH hs0;simp only [af] at Nu;have mU:=h1.slot root;rw [sR] at mU;obtain ⟨ob,Sg,cJ⟩:=mU.2.obj;obtain ⟨arr,clock,rfl,uN⟩: ∃arr clock,ob= .map arr clock/\rz s arr clock es0:=by
     cases ob with
     |cells x y z=>exact absurd cJ.2.zG (by simp [gn])
     |map arr clock=>obtain ⟨s2,ms2,k1,k2,k3⟩:=cJ;simp only [acC,aD.mp.injEq,and_true] at k1;obtain ⟨rfl,rfl⟩:=k1;exact ⟨arr,clock,rfl,k3⟩
     |stringIter b pos=>have k1:[aD.mp s es0]=[aD.mp MS.it _]:=cJ;simp only [acC,aD.mp.injEq,and_true] at k1;rw [k1.1] at hit;cases hit
     |_=>exact cJ.elim
    obtain ⟨kt,el,jC,_⟩:=(hG.mt q.t s hs0).row;have bV:=run_range_map (P:=P) w1 q.t kt el (e1.B root) arr clock jC Sg;obtain ⟨hnb,hnp,cT⟩:=Ok nP;have db:root≠q.d2:=by intro he;rw [<-he,sR] at hnb;cases hnb
    have Pa:dC w1 (w1.alloc (.mapIter (some (e1.B root)) clock #[] clock)):=by
     refine ⟨by simp,λk hk=>qU w1 _ k hk,⟨rfl,rfl,rfl,λx=> ?_⟩⟩;by_cases hx:x.block=w1.heap.size
     ·have e1':(w1.alloc (.mapIter (some (e1.B root)) clock #[] clock)).heap[x.block]? =some (.mapIter (some (e1.B root)) clock #[] clock):=by rw [hx];exact gG w1 _
      have e2:w1.heap[x.block]? =none:=by rw [hx];simp
      simp [adD,e1',e2]
     ·exact World.frozen?_alloc_old _ _ _ hx
    rw [List.length_singleton];show wpOps P q.o1 _ [1] a1 w1;rw [wpOps_cons];have wJ:q.o1[1]? =some q.b1:=by rw [<-aaU,l1];rfl
    refine Mr wJ g2 ?_;unfold Oper.wp;have hex:(execOp a1.eval q.b1).run P w1= .ok (.value (.pointer (some ⟨w1.heap.size,0,none⟩))) (w1.alloc (.mapIter (some (e1.B root)) clock #[] clock)):=by simp [execOp,m3,Nu,bV,aco]
    rw [hex,adz,m4];obtain ⟨e2,dM,h2,xp,hφ2⟩:=di (v:= .pointer (some ⟨w1.heap.size,0,none⟩)) (s:= .sc .un) (h1.grow Pa) (by simp [qv,af,cL]) nP;have wz:(a1.put (some q.d2) (.pointer (some ⟨w1.heap.size,0,none⟩))).tmps.getD q.d2 undef= .pointer (some ⟨w1.heap.size,0,none⟩):=by rw [Act.zD (by rw [h1.size];exact cT),if_pos rfl]
    have hto: ∀t,t≠q.d2->(a1.put (some q.d2) (.pointer (some ⟨w1.heap.size,0,none⟩))).tmps.getD t undef=a1.tmps.getD t undef:=λt ht=>by rw [Act.zD (by rw [h1.size];exact cT),if_neg ht]
    generalize a1.put (some q.d2) (.pointer (some ⟨w1.heap.size,0,none⟩))=a2 at h2 wz hto⊢;have U5:(w1.alloc (.mapIter (some (e1.B root)) clock #[] clock)).heap[w1.heap.size]? =some (.mapIter (some (e1.B root)) clock #[] clock):=gG w1 _;have Tf:(w1.alloc (.mapIter (some (e1.B root)) clock #[] clock)).heap[e1.B root]? =some (.map arr clock):=by rw [qU w1 _ _ (ba Sg)];exact Sg
    have aqh:Z.In w1.heap.size:=h1.cB _ (IT _);have t12:Trans Z.In e.φ w e2.φ (w1.alloc (.mapIter (some (e1.B root)) clock #[] clock)):=by rw [hφ2];exact t1.trans (Pa.trans h1.cB _)
    have ahA:a1.tmps.getD root undef= .map (some (e1.B root)):=by have:=mU.1.1 BN;rw [this];simp [HL,mf,hit]
    generalize hbq:e1.B root=bm at *;generalize hiq:w1.heap.size=ib at *;generalize w1.alloc (.mapIter (some bm) clock #[] clock)=w2 at *;clear bV hex Pa Sg;show (Code.block q.k (.loop q.body)).wp P Q a2 w2;refine wp_block (wp_loop_rounds (arr.size+1) ?_);generalize hhn:c.wv q.i2=hn at xp;obtain ⟨Zi,e3,e4,pi,Zm,h3,t3,hφ,hk,j1,j2,jW,SU,PG⟩:=zO h2 xp;split at PG
    ·rename_i s2 es atc afN;cases HQ:s2.st||(!C9 s2.lay [.s]||(s2.b||!bI Zm.cz q.d2)) with
     |true=>rw [HQ] at PG;cases PG
     |false=>
      rw [HQ] at PG;simp only [cond_false] at PG;simp only [ab1,adi] at HQ;obtain ⟨c1,c2,c3,c4⟩:=HQ;have c2:=UD c2;obtain ⟨⟨n,ms⟩,hR,hK4⟩:=mV PG;have hK4:=Iq hK4;obtain ⟨kF,qo⟩:=Qs hR;have hd2:q.d2∈Zi.cz:=by rw [<-j2.tV.defers.2.1];exact (bH _ _).1 c4
      have hTd:Zi.T q.d2= .pointer (some ⟨ib,0,none⟩):=by rw [<-j2.T _ hd2];exact wz
      have hs4:=j2.tV.slot root;rw [afN] at hs4;have aqj:C8 s2=false:=by simp [C8,c2]
      have hb4:e4.B root=bm:=by have:=hs4.1.1 BN;rw [hto root db,ahA] at this;simp [HL,mf,aqj] at this;exact this.symm
      have hm4:rz s2 arr clock es:=by obtain ⟨ob,k1,k2⟩:=hs4.2.obj;rw [hb4,Tf] at k1;cases k1;obtain ⟨s3,ms3,k3,_,k4⟩:=k2;simp only [acC,aD.mp.injEq,and_true] at k3;obtain ⟨rfl,rfl⟩:=k3;exact k4
      have hnz: ¬Zi.In bm:=by have:=j2.box root _ afN;rwa [hb4] at this
      have Tj:bm≠ib:=by intro he;rw [he,U5] at Tf;cases Tf
      have U6: ∀(i:Nat) (x:MapEntry),arr[i]? =some x->x.born=i/\ ∃m,es[i]? =some m/\Yy s2 x m i:=by
       intro i x hx;have hi:i<es.length:=by rw [<-hm4.size];exact (Array.getElem?_eq_some_iff.1 hx).1
       have he:=hm4.ent i x es[i] hx (cM hi);exact ⟨he.1,es[i],cM hi,he⟩
      have hold: ∀x∈arr.toList,x.born<clock:=by
       intro x hx;obtain ⟨i,hi,he⟩:=abK.1 hx;have GN:arr[i]? =some x:=by rw [<-aaU,cM hi,he]
       rw [(U6 i x GN).1,hm4.clock,<-hm4.size];simpa using hi
      have hnd:(arr.toList.map (·.born)).Nodup:=by
       have:arr.toList.map (·.born)=OF arr.toList.length:=by
        apply acd;intro i;rw [ab5];by_cases hi:i<arr.toList.length
        ·rw [cM hi,ac6 hi];have GN:arr[i]? =some arr.toList[i]:=by rw [<-aaU,cM hi]
         simp only [adA,(U6 i _ GN).1]
        ·rw [ab9 (by omega),ab9 (by simp at hi⊢;omega)];rfl
       rw [this];exact List.nodup_range
      have hzw:(Zi.wd ib).cz=Zi.cz:=rfl;have key: ∀(k:Nat) (φ:Ph) (a:Act) (w:World) (seen:Array Nat),kI c Z (Zi.wd ib) {e4 with φ:=φ} (vR dM Zm) hn a w->kI c (Zi.wd ib) (Zi.wd ib) {e4 with φ:=φ} Zm hn a w-> Trans Z.In e2.φ w2 φ w->w.heap[ib]? =some (.mapIter (some bm) clock seen clock)->w.heap[bm]? =some (.map arr clock)-> (∀b∈seen.toList,∃m,es[b]? =some m/\ad3 c q Zm m=some (.inl ()))->(leftOf arr seen).size<k->acr P q.body (aa1 q.k Q) k a w:=by
       intro k;induction k with
       |zero=>intro φ a w seen _ _ _ _ _ _ hl;omega
       |succ k ih=>
        intro φ a w seen j1 j2 t0 U5 Tf afO hl;have ahB:=ba U5;have av1:=ba Tf;have rF:a.tmps.getD q.d2 undef= .pointer (some ⟨ib,0,none⟩):=by rw [j2.T _ hd2];exact hTd
        have leave: ∀(n':Nat) (e6:Env) (st6:St) (a6:Act) (w6:World) (w':World) (vs:List MV),kI c Z (Zi.wd ib) {e4 with φ:=φ} (vR dM Zm) hn a w'->Trans Z.In e2.φ w2 φ w'->ib<w'.heap.size-> bX c ((Zi.wd ib).cv ib) e6 st6 a6 w6->Trans ((Zi.wd ib).cv ib).In φ w' e6.φ w6->TO st6 [] (hn.ex n') vs->(n',vs)=(n,ms)->aa1 q.k Q (lH n') a6 w6:=by intro n' e6 st6 a6 w6 w' vs jj tt EN h6 t6 hT jT;cases jT;have jl:=(jj.alI EN).later t6 h6.kE h6.defers.1 h6.size h6.defers.2.2.2;obtain ⟨s1,s2,s3⟩:=Ip (hn:=hn) (e:=n);obtain ⟨e7,st7,q1,q2,q3⟩:=A5 jl h6 rfl ⟨s1,s2⟩ (s3 SU) hT hK4;refine Cv (hQ _ e7 st7 a6 w6 q1 ?_ q3);rw [q2];exact t12.trans (tt.trans (t6.sup λb hb=>jj.sub b hb.1))
        rw [rounds_succ];unfold X2.body;refine wp_seq ?_;rcases run_next_at (P:=P) w q.a2.type ib bm clock clock seen arr clock U5 Tf hold (IT _) with ⟨hz,hnx⟩|⟨x,hxm,w1',hw1,hnx⟩
        ·have hD1:ahx c q Zm=some (n,ms):=by
          refine qo λm hm=> ?_;obtain ⟨i,hi,he⟩:=abK.1 hm;have hia:i<arr.size:=by rw [hm4.size];exact hi
          have GN:arr[i]? =some arr[i]:=Array.getElem?_eq_getElem hia;have hs:=all_seen arr seen hz arr[i] (by simp);rw [(U6 i _ GN).1] at hs;obtain ⟨m',k1,k2⟩:=afO i (by simpa using hs);rw [cM hi,he] at k1;cases k1;exact k2
         unfold ahx at hD1;have hex:(execOp a.eval q.a2).run P w= .ok (.value (.tuple #[.bool false])) w:=by have hv:a.eval (.tmp q.d2)= .pointer (some ⟨ib,0,none⟩):=rF;simp [execOp,m5,hv,hnx,aco]
         refine Dz l2 g3 (fin (s:= .dH [.sc (.p (.b false))]) hex (j2.afM ahB) (.refl _ _ _) ⟨?_,trivial⟩ hD1) ?_
         ·simp only [af];exact ⟨_,rfl,.bool false,_,rfl,yT _,rfl,rfl⟩
         ·rintro a5 w5 ⟨e5,st5,h5,t5,hK5⟩;try dsimp only at hK5
          refine NP hG (I3 l2) h5 hK5 t5 ?_;rintro a6 w6 ⟨e6,st6,h6,t6,SM⟩;try dsimp only at SM
          obtain ⟨hcx,_⟩:=h6.eval q.cx;split at SM
          ·rename_i hb;rw [hb] at hcx;obtain ⟨vs,hT,jT⟩:=mr SM;simp only [AT] at jT;rw [hhn] at hT;refine wp_seq (wp_cond_false (zE hcx) (wp_exit ?_));exact leave (q.kx+2) e6 st6 a6 w6 w vs j1 t0 ahB h6 t6 hT jT
          ·cases SM
        ·obtain ⟨hxa,hxs⟩:=mem_left hxm;obtain ⟨i,hi,he⟩:=abK.1 hxa;have GN:arr[i]? =some x:=by rw [<-aaU,cM hi,he]
         obtain ⟨Bw,m,V4,aqk⟩:=U6 i x GN;obtain ⟨_,ks,v,rfl,RR,hxk,hvb,hxv⟩:=aqk;have YH:=Ol V4;obtain ⟨res,o6,HV⟩: ∃res,ad3 c q Zm (.dH [.agg ks,v])=some res/\(res= .inl ()\/res= .inr (n,ms)):=by
          rcases kF _ YH with h|h
          ·exact ⟨_,h,.inl rfl⟩
          ·exact ⟨_,h,.inr rfl⟩
         obtain ⟨Tk,rfl⟩: ∃Tk,ks=[.s Tk]:=by
          rw [c2] at RR;match ks,RR with
          |[.s l],_=>exact ⟨l,rfl⟩
         obtain ⟨n0,rfl⟩: ∃n0,v= .i .i64 n0:=by
          rw [c3] at hvb;match v,hvb with
          | .i .i64 n0,_=>exact ⟨n0,rfl⟩
         have hxk:x.key= .string ⟨Tk.toArray⟩:=by rw [hxk,c1];rfl
         have hxv:x.val= .int .i64 n0:=by rw [hxv,c3];rfl
         have alM:=o6;unfold ad3 at o6;simp only [Qq,gT,gC,gA,gN,gS,gI,decide_true,cond_true] at o6;have hzi:(Zi.wd ib).In ib:= .inr rfl;have ED:Trans (Zi.wd ib).In φ w φ (sh w1' ib (.mapIter (some bm) clock (seen.push x.born) clock)):=Ti hzi hw1 U5 (λ_ _ _ h=>by cases h) (λ_ _ _ h=>by cases h);have hh1:w1'.heap=w.heap:=by rcases hw1 with rfl|rfl<;>rfl
         have ad4:(sh w1' ib (.mapIter (some bm) clock (seen.push x.born) clock)).heap[ib]? =some (.mapIter (some bm) clock (seen.push x.born) clock):=by simp [sh,hh1,ahB]
         have lV:qi φ (sh w1' ib (.mapIter (some bm) clock (seen.push x.born) clock)):=by
          intro b o u hu;have h0:=j2.tV.kE b o u hu;have aqm:b≠ib:=by
           intro Su;subst Su;have:w.cell? ⟨b,o,none⟩=none:=by simp [World.cell?,U5]
           rw [this] at h0;cases h0
          have gV:(sh w1' ib (.mapIter (some bm) clock (seen.push x.born) clock)).heap[b]? =w.heap[b]? :=by simp only [sh,hh1];rw [aaT (Ne.symm aqm)]
          rw [World.cell?_of_block gV];exact h0
         have aaq:(sh w1' ib (.mapIter (some bm) clock (seen.push x.born) clock)).heap[bm]? =some (.map arr clock):=by simp only [sh,hh1];rw [aaT (Ne.symm Tj)];exact Tf
         generalize sh w1' ib (.mapIter (some bm) clock (seen.push x.born) clock)=w' at hnx ED ad4 lV aaq;have J1:=j1.later ED lV j1.tV.defers.1 j1.tV.size j1.T;have J2:=j2.later ED lV j2.tV.defers.1 j2.tV.size j2.T;have T0:=t0.trans (ED.sup j1.sub);have U7:=ba ad4;have S:=J2.afM U7;have hex:(execOp a.eval q.a2).run P w= .ok (.value (.tuple #[.bool true,x.key,x.val])) w':=by have hv:a.eval (.tmp q.d2)= .pointer (some ⟨ib,0,none⟩):=rF;simp [execOp,m5,hv,hnx,aco]
         have kS: ∀ee:Env,af ee x.key (.sc (.p (.s Tk))):=λee=>by have:=YB (e:=ee) ⟨Tk.toArray⟩;rw [hxk];simpa using this
         have vS: ∀ee:Env,af ee x.val (.sc (.p (.i .i64 n0))):=λee=>by rw [hxv];exact sS _ _
         obtain ⟨e5,st5,h5,hK5,hφ5⟩:=di (v:= .tuple #[.bool true,x.key,x.val]) (s:= .dH [.sc (.p (.b true)),.sc (.p (.s Tk)),.sc (.p (.i .i64 n0))]) S ⟨by simp only [af];exact ⟨_,rfl,.bool true,_,rfl,yT _,rfl,x.key,_,rfl,kS _,rfl,x.val,[],rfl,vS _,rfl,rfl⟩,trivial⟩ o6;refine Dz l2 g3 (nx:=λa5 w5=>a5=a.put q.a2.dst (.tuple #[.bool true,x.key,x.val])/\w5=w') ?_ ?_
         ·unfold Oper.wp;rw [hex,adz];exact ⟨rfl,rfl⟩
         ·rintro a5 w5 ⟨rfl,rfl⟩;refine NP hG (I3 l2) h5 hK5 (φ0:=φ) (w0:=w5) (by rw [hφ5];exact .refl _ _ _) ?_;rintro a6 w6 ⟨e6,st6,h6,t6,SM⟩;try dsimp only at SM
          obtain ⟨hcx,_⟩:=h6.eval q.cx;split at SM
          ·rename_i hb;rw [hb] at hcx;refine wp_seq (wp_cond_true (zE hcx) (wp_skip ?_));refine wp_block (wp_seq ?_);have alN: ¬((Zi.wd ib).cv ib).In ib:=λhz=>hz.2 rfl;have alO: ¬((Zi.wd ib).cv ib).In bm:=λhz=>hz.1.elim hnz Tj;have aqn:w6.heap[ib]? =some (.mapIter (some bm) clock (seen.push x.born) clock):=by rw [t6.heap ib alN U7];exact ad4
           have aqo:w6.heap[bm]? =some (.map arr clock):=by rw [t6.heap bm alO (ba aaq)];exact aaq
           have alP:=run_entry_at (P:=P) w6 ib bm clock seen arr clock x aqn aqo hxa hnd;have alQ:a6.eval (.tmp q.d2)= .pointer (some ⟨ib,0,none⟩):=by have:=h6.defers.2.2.2 q.d2 hd2;show a6.tmps.getD q.d2 undef=_;rw [this];exact hTd
           have aqp:(execOp a6.eval q.a3).run P w6= .ok (.value (.tuple #[x.key,x.val])) w6:=by simp [execOp,m6,alQ,alP,aco]
           refine Dz l3 g4 (fin (s:= .dH [.sc (.p (.s Tk)),.sc (.p (.i .i64 n0))]) aqp h6 (.refl _ _ _) ⟨?_,trivial⟩ SM) ?_
           ·simp only [af];exact ⟨_,rfl,x.key,_,rfl,kS _,rfl,x.val,[],rfl,vS _,rfl,rfl⟩
           ·rintro a7 w7 ⟨e7,st7,h7,t7,hK7⟩;try dsimp only at hK7
            refine NP hG (I3 l3) h7 hK7 (t6.trans t7) ?_;rintro a8 w8 ⟨e8,st8,h8,t8,hK8⟩;try dsimp only at hK8
            refine vh hG hD q.rest h8 hK8 ?_;intro n' e9 st9 a9 w9 h9 t9 hK9;try dsimp only at hK9
            have t89:=t8.trans t9;cases hgo:No n' 0||No n' (q.k5+2) with
            |true=>
             rw [hgo] at hK9;simp only [cond_true,AT] at hK9;have Is:acr P q.body (aa1 q.k Q) k a9 w9:=by
              have tW:Trans (Zi.wd ib).In φ w5 e9.φ w9:=t89.sup λb hb=>hb.1;refine ih e9.φ a9 w9 (seen.push x.born) (J1.later tW h9.kE h9.defers.1 h9.size h9.defers.2.2.2) (J2.later tW h9.kE h9.defers.1 h9.size h9.defers.2.2.2) (T0.trans (tW.sup j1.sub)) ?_ ?_ ?_ ?_
              ·rw [t89.heap ib alN U7];exact ad4
              ·rw [t89.heap bm alO (ba aaq)];exact aaq
              ·intro b ad5;simp only [Array.toList_push,List.mem_append,List.mem_singleton] at ad5;rcases ad5 with ad5|rfl
               ·exact afO b ad5
               ·rw [Bw];exact ⟨_,V4,by rw [alM,<-hK9]⟩
              ·have:=left_shrinks arr seen x hxm;omega
             refine Cv (Q:=Exit.then (acr P q.body (aa1 q.k Q) k) (aa1 q.k Q)) ?_;have:(bif No n' (q.k5+2) then 0 else n')=0:=by
              rcases Bool.or_eq_true_iff.1 hgo with h|h
              ·have:=BY h;subst this;cases No 0 (q.k5+2)<;>rfl
              ·rw [h];rfl
             rw [this];exact Is
            |false=>
             rw [hgo] at hK9;simp only [cond_false] at hK9;obtain ⟨vs,hT,jT⟩:=mr hK9;simp only [AT] at jT;rw [hhn] at hT;simp only [ab1] at hgo;have XO:n'≠0:=by intro he;rw [he] at hgo;simp [eD] at hgo
             have aqq:(n',vs)=(n,ms):=by
              rcases HV with h|h
              ·rw [h] at jT;cases jT
              ·rw [h] at jT;cases jT;rfl
             have:=leave n' e9 st9 a9 w9 w5 vs J1 T0 U7 h9 t89 hT aqq;refine Cv (Q:=Exit.then (acr P q.body (aa1 q.k Q) k) (aa1 q.k Q)) ?_;rw [hgo.2];simp only [cond_false];rw [wK XO];exact this
          ·cases SM
      have hφ4:{e4 with φ:=e4.φ}=e4:=by cases e4;rfl
      refine key (arr.size+1) e4.φ a2 w2 #[] (by rw [hφ4];exact j1.wide aqh U5) (by rw [hφ4];exact j2.alJ U5) (by rw [hφ];exact t3) U5 Tf (by simp) ?_;have:(leftOf arr #[]).size<=arr.size:=by unfold leftOf;exact Array.size_filter_le
      omega
    ·cases PG
  ·cases nP
 ·cases nP
end
end Dn
/-
  Functions of the library as table entries. Conditions: none.
-/
namespace Dn
open Go
def jq (size bytes:Nat):List MV->Option MV
 |[.list xs]=>bif o9 size xs&&acj (xs.length *bytes) (2^46) then some (.fresh xs) else none
 |_=>none
def po (bytes:Nat):List MV->Option MV
 |[.fresh xs,.i .i64 i,.fresh ys]=>bif decide (0<=i)&&(acj i.toNat xs.length&&(!ys.isEmpty&&acj ((xs.length+ys.length) *bytes) (2^46))) then some (.fresh (xs.take i.toNat++ys++xs.drop i.toNat)) else none
 |_=>none
theorem rK {size bytes:Nat}{ms:List MV}{r:MV}(h:jq size bytes ms=some r): ∃xs,ms=[.list xs]/\r= .fresh xs/\o9 size xs=true/\xs.length *bytes<=2^46:=by
 unfold jq at h;split at h
 ·rename_i xs;cases hb:o9 size xs&&acj (xs.length *bytes) (2^46) with
  |false=>simp [hb] at h
  |true=>simp only [hb,cond_true,AT] at h;simp only [aca] at hb;exact ⟨xs,rfl,h.symm,hb.1,aaW hb.2⟩
 ·cases h
theorem DA {bytes:Nat}{ms:List MV}{r:MV}(h:po bytes ms=some r): ∃xs ys i,ms=[.fresh xs,.i .i64 ((i:Nat):Int),.fresh ys]/\r= .fresh (xs.take i++ys++xs.drop i)/\i<=xs.length/\ys≠[]/\(xs.length+ys.length) *bytes<=2^46:=by
 unfold po at h;split at h
 ·rename_i xs i ys;cases hb:decide (0<=i)&&(acj i.toNat xs.length&&(!ys.isEmpty&&acj ((xs.length+ys.length) *bytes) (2^46))) with
  |false=>rw [hb] at h;cases h
  |true=>
   simp only [hb,cond_true,AT] at h;simp only [aca,decide_eq_true_eq,adk] at hb;obtain ⟨h1,h2,h3,h4⟩:=hb;refine ⟨xs,ys,i.toNat,?_,h.symm,aaW h2,?_,aaW h4⟩
   ·rw [Int.toNat_of_nonneg h1]
   ·intro hy;subst hy;simp at h3
 ·cases h
theorem dD.none (P:Program)(c:Ctx):dD P c (λ_ _=>Option.none):=⟨λf ms r h=>by cases h⟩
theorem dD.Tl {P:Program}{c:Ctx}{g:Nat->List MV->Option MV}{n:Nat}{F:List MV->Option MV}(h:dD P c g)(vV: ∀f,c.key f=f)(hF: ∀ms r,F ms=some r->jV P c n ms r):dD P c (bL n F g):=h.add (λf ms r hk hr=>by rw [vV] at hk;rw [hk];exact hF ms r hr)
def xS:Code->List Oper
 | .region _ ops _=>ops.toList
 | .seq x y=>xS x++xS y
 | .cond _ x y=>xS x++xS y
 | .block _ x=>xS x
 | .loop x=>xS x
 |_=>[]
def iQ (fn:Func)(d:Oper)(k:Nat):Oper:=match fn.body with|some c=>(xS c).getD k d|none=>d
def U8 (o:Nat->Oper):Code:= .seq (.region 18 #[o 83,o 84,o 85,o 86,o 87] false) (.seq (.region 19 #[o 88,o 89,o 90,o 91,o 92] false) (.seq (.region 20 #[o 93,o 94] false) .ret))
def iR:Oper:={dst:=none,op:= .move (.tmp 0),type:=0,pos:= "",after:= #[],guard:=none}
end Dn
/-
  Reasoning about functions on values. Conditions: none.
-/
namespace Dn
open Go
section
variable {R:Type}
@[simp] theorem av3 (x : Bool)(K : Bool -> Option R) : gB (.b x) K = K x := (rfl)
@[simp] theorem av4 (k : IntKind)(x : Int)(K : Int -> Option R) : gI k (.i k x) K = K x := by simp [gI]
@[simp] theorem av5 (x : List UInt8)(K : List UInt8 -> Option R) : gS (.s x) K = K x := (rfl)
@[simp] theorem av6 (x : List MV)(K : List MV -> Option R) : gL (.list x) K = K x := (rfl)
@[simp] theorem av7 (x : kY)(K : kY -> Option R) : gH (.h x) K = K x := (rfl)
@[simp] theorem av8 (x : List MV)(K : List MV -> Option R) : gA (.agg x) K = K x := (rfl)
@[simp] theorem av9 (x : List MV)(K : List MV -> Option R) : gT (.dH x) K = K x := (rfl)
@[simp] theorem awa (x : List MV)(K : List MV -> Option R) : gF (.fresh x) K = K x := (rfl)
@[simp] theorem atl (f : Nat)(x : List MV)(K : Nat -> List MV -> Option R) : Ui (.func f x) K = K f x := (rfl)
@[simp] theorem awb (f : Nat)(x : List MV)(K : MV -> Option R) : gR (.func f x) K = K (.func f x) := (rfl)
@[simp] theorem awc (m : MV)(r : List MV)(K : MV -> List MV -> Option R) : gC (m :: r) K = K m r := (rfl)
@[simp] theorem awd (K : Option R) : gN [] K = K := (rfl)
@[simp] theorem au {α : Type}(a : α)(K : α -> Option R) : bd (some a) K = K a := (rfl)
@[simp] theorem atm (a b : Nat) : No a b = decide (a = b) := eD a b
@[simp] theorem alR (K : Option R) : cU true K = K := (rfl)
@[simp] theorem alS (x y : Option R) : bG true x y = x := (rfl)
@[simp] theorem ajx (x y : Option R) : bG false x y = y := (rfl)
end
theorem ad6 {x:Int}(h1: -9223372036854775808<=x)(h2:x<=9223372036854775807):AI .i64 x=x:=by rw [acu];omega
theorem ahE {i j:Nat}(h:i+j<2^62):AI .i64 (adB (AI .u64 (AI .i64 ((i:Int)+(j:Int)))) (2^min (acZ 1) (ace .u64)))=(((i+j)/2:Nat):Int):=by
 have h1:AI .i64 ((i:Int)+(j:Int))=((i+j:Nat):Int):=by rw [acu];omega
 have h2:AI .u64 ((i+j:Nat):Int)=((i+j:Nat):Int):=by
  have:AI .u64 ((i+j:Nat):Int)=((i+j:Nat):Int)%18446744073709551616:=by simp [AI,IntKind.signed,ace]
  rw [this];omega
 have h3:(2:Int)^min (acZ 1) (ace .u64)=2:=by decide
 rw [h1,h2,h3,Int.fdiv_eq_ediv_of_nonneg _ (by omega)];rw [acu];omega
section
variable {σ R:Type}{body:σ->Option (Sum σ R)}
theorem Ms {n:Nat}{s:σ}{r:R}(h:iter body n s=some r): ∀{m:Nat},n<=m->iter body m s=some r:=by
 induction n generalizing s with
 |zero=>cases h
 |succ n ih=>
  intro m hm;obtain ⟨m,rfl⟩: ∃k,m=k+1:=⟨m-1,by omega⟩
  simp only [iter] at h⊢;cases hb:body s with
  |none=>rw [hb] at h;cases h
  |some x=>
   rw [hb] at h;cases x with
   |inl s'=>exact ih h (by omega)
   |inr r'=>exact h
theorem mY {n:Nat}{s:σ}{r:R}(h:iter body n s=some r):Loop body s=some r:=by
 have he: ∃r n,iter body n s=some r:=⟨r,n,h⟩
 unfold Loop;rw [dif_pos he];obtain ⟨m,hm⟩:=acJ he;have h1:=Ms h (Nat.le_max_left n m);have h2:=Ms hm (Nat.le_max_right n m);rw [h1] at h2;exact h2.symm
theorem aar (I:σ->Prop) (μ:σ->Nat)(Q:R->Prop)(h: ∀s,I s->(∃s',body s=some (.inl s')/\I s'/\μ s'<μ s)\/(∃r,body s=some (.inr r)/\Q r)){s:σ}(hs:I s): ∃r,Loop body s=some r/\Q r:=by
 have key: ∀k s,I s->μ s<k-> ∃r,iter body k s=some r/\Q r:=by
  intro k;induction k with
  |zero=>intro s _ h;omega
  |succ k ih=>
   intro s hs hk;rcases h s hs with ⟨s',e,hi,hm⟩|⟨r,e,hq⟩
   ·obtain ⟨r,e2,hq⟩:=ih s' hi (by omega);exact ⟨r,by simp only [iter,e];exact e2,hq⟩
   ·exact ⟨r,by simp only [iter,e],hq⟩
 obtain ⟨r,e,hq⟩:=key (μ s+1) s hs (by omega);exact ⟨r,mY e,hq⟩
theorem aas (S:Nat->σ)(N:Nat)(Q:R->Prop)(P:Nat->Prop)(h0:P 0)(h: ∀k,k<N->P k->(body (S k)=some (.inl (S (k+1)))/\P (k+1))\/(∃r,body (S k)=some (.inr r)/\Q r))(he:P N-> ∃r,body (S N)=some (.inr r)/\Q r): ∃r,Loop body (S 0)=some r/\Q r:=by
 have key: ∀d k,k+d=N->P k-> ∃r,iter body (d+1) (S k)=some r/\Q r:=by
  intro d;induction d with
  |zero=>
   intro k hk hp;have:k=N:=by omega
   subst this;obtain ⟨r,e,hq⟩:=he hp;exact ⟨r,by simp only [iter,e],hq⟩
  |succ d ih=>
   intro k hk hp;rcases h k (by omega) hp with ⟨e,GO⟩|⟨r,e,hq⟩
   ·obtain ⟨r,e2,hq⟩:=ih (k+1) (by omega) GO;exact ⟨r,by rw [iter,e];exact e2,hq⟩
   ·exact ⟨r,by rw [iter,e],hq⟩
 obtain ⟨r,e,hq⟩:=key N 0 (by omega) h0;exact ⟨r,mY e,hq⟩
end
end Dn
/-
  From functions on plain values to functions on typed values. Conditions: none.
-/
namespace Dn
open Go
def cr {R:Type}(l:List MV)(K:Nat->Option R):Option R:=K l.length
def ix {α R:Type}(l:List α)(i:Int)(K:α->Option R):Option R:=match (if 0<=i then l[i.toNat]? else none) with|some x=>K x|none=>none
def DB (l:List UInt8):List Int:=l.map λb=>(b.toNat:Int)
@[simp] theorem Bf (l : List UInt8) : Pl l = (DB l).map (MV.i .u8) := by unfold Pl DB; rw [List.map_map]; rfl
def qD {α:Type}(bytes:Nat)(l:List α):Option (List α):=if l.length *bytes<=2^46 then some l else none
def Bg {α:Type}(bytes:Nat)(xs:List α)(i:Int)(ys:List α):Option (List α):=if 0<=i/\i.toNat<=xs.length/\ys≠[]/\(xs.length+ys.length) *bytes<=2^46 then some (xs.take i.toNat++ys++xs.drop i.toNat) else none
@[reducible] def Qt {α : Type}(f : α -> MV)(l : List α) : MV := .list (l.map f)
@[reducible] def WJ {α : Type}(f : α -> MV)(l : List α) : MV := .fresh (l.map f)
def Sm {A B:Type}(g:B->A)(x:Option A)(y:Option B):Prop:=x=y.map g
section
variable {A B A' B' α:Type}{g:B->A}{T:Option B}
theorem Sm.at {x x':Option A}(e:x=x')(h:Sm g x' T):Sm g x T:=e▸h
theorem aJ {l:List MV}{K:List MV->Option A}(h:Sm g (K l) T):Sm g (gA (.agg l) K) T:=h
theorem aE {x:Bool}{K:Bool->Option A}(h:Sm g (K x) T):Sm g (gB (.b x) K) T:=h
theorem du {x:List UInt8}{K:List UInt8->Option A}(h:Sm g (K x) T):Sm g (gS (.s x) K) T:=h
theorem aT {x:List MV}{K:List MV->Option A}(h:Sm g (K x) T):Sm g (gL (.list x) K) T:=h
theorem nQ {x:MV}{outs:List MV}{K:MV->List MV->Option A}(h:Sm g (K x outs) T):Sm g (gW (.dX x outs) K) T:=h
theorem eG {x:List MV}{K:List MV->Option A}(h:Sm g (K x) T):Sm g (gT (.dH x) K) T:=h
theorem qp {x:List MV}{K:List MV->Option A}(h:Sm g (K x) T):Sm g (gF (.fresh x) K) T:=h
theorem Qu {x:List MV}{K:List MV->Option A}(h:Sm g (K x) T):Sm g (gP (.rp x) K) T:=h
theorem Aa {f:Nat}{x:List MV}{K:Nat->List MV->Option A}(h:Sm g (K f x) T):Sm g (Ui (.func f x) K) T:=h
theorem xT {f:Nat}{x:List MV}{K:MV->Option A}(h:Sm g (K (.func f x)) T):Sm g (gR (.func f x) K) T:=h
theorem aat {v:Value}{K:MV->Option A}(h:Sm g (K (.raw v)) T):Sm g (gR (.raw v) K) T:=h
theorem ax {k:IntKind}{n:Int}{K:Int->Option A}(h:Sm g (K n) T):Sm g (gI k (.i k n) K) T:=by simpa using h
theorem ai {m:MV}{r:List MV}{K:MV->List MV->Option A}(h:Sm g (K m r) T):Sm g (gC (m::r) K) T:=h
theorem aC {K:Option A}(h:Sm g K T):Sm g (gN [] K) T:=h
theorem ao {x:Option A'}{y:Option B'}{f:B'->A'}{K:A'->Option A} {K':B'->Option B}(h:Sm f x y)(hk: ∀b,Sm g (K (f b)) (K' b)):Sm g (bd x K) (bd y K'):=by
 unfold Sm at h;subst h;cases y with
 |none=>rfl
 |some b=>exact hk b
theorem bh {p:Prop}[Decidable p]{X Y:Option A} {X' Y':Option B}(h1:Sm g X X')(h2:Sm g Y Y'):Sm g (bG (decide p) X Y) (if p then X' else Y'):=by by_cases h:p<;>simpa [h] using (by assumption)
theorem aG {c:Bool}{X Y:Option A} {X' Y':Option B}(h1:Sm g X X')(h2:Sm g Y Y'):Sm g (bG c X Y) (if c then X' else Y'):=by cases c<;>simpa using (by assumption)
theorem ew {p:Prop}[Decidable p]{X:Option A} {X':Option B}(h1:Sm g X X'):Sm g (cU (decide p) X) (if p then X' else none):=by
 by_cases h:p
 ·simpa [h] using h1
 ·simp [h,cU,Sm]
theorem U9 {c:Bool}{X:Option A} {X':Option B}(h1:Sm g X X'):Sm g (cU c X) (if c then X' else none):=by
 cases c
 ·simp [cU,Sm]
 ·simpa using h1
theorem bM {c:Bool}{X:Option A}(hc:c=true)(h:Sm g X T):Sm g (cU c X) T:=by subst hc;exact h
theorem nI {c:Bool}{X Y:Option A}(hc:c=true)(h:Sm g X T):Sm g (bG c X Y) T:=by subst hc;exact h
theorem nJ {c:Bool}{X Y:Option A}(hc:c=false)(h:Sm g Y T):Sm g (bG c X Y) T:=by subst hc;exact h
theorem xU {l:List MV}{n:Nat}{K:Nat->Option A}(e:l.length=n)(h:Sm g (K n) T):Sm g (cr l K) T:=by subst e;exact h
theorem bW {l:List MV}{M:List α}{f:α->MV}{i:Int}{K:MV->Option A} {K':α->Option B}(e:l=M.map f)(h: ∀y,Sm g (K (f y)) (K' y)):Sm g (idx l i K) (ix M i K'):=by
 subst e;unfold idx RU ix;by_cases hi:0<=i
 ·simp only [hi,if_true,ab5];cases M[i.toNat]? with
  |none=>rfl
  |some y=>exact h y
 ·simp only [hi,if_false];rfl
theorem DC {R:Type}{a b x:Option R}(h1:a=x)(h2:b=x):both a b=x:=by subst h1;subst h2;unfold both;rw [if_pos rfl]
theorem I5 {X Y:Option A}{T:Option B}(e:Y=X)(h:Sm g X T):Sm g Y T:=by rw [e];exact h
theorem Ho {C:Type}{x:Option C}{K:C->Option A} {K':C->Option B}(h: ∀b,Sm g (K b) (K' b)):Sm g (bd x K) (bd x K'):=by
 cases x with
 |none=>rfl
 |some b=>exact h b
theorem Om {a b:Nat}{K:Nat->Nat->Option A}(h:Sm g (K a b) T):Sm g (gCx (.raw (.complex .f64 a b)) K) T:=h
def Qv {R:Type}(l:List Int)(K:List UInt8->Option R):Option R:=if l.all isByte then K (l.map λn=>UInt8.ofNat n.toNat) else none
theorem aau {R:Type}{M:List Int}: ∀{K:List UInt8->Option R},Ng (M.map (MV.i .u8)) K=Qv M K:=by
 induction M with
 |nil=>intro K;rfl
 |cons n M ih=>intro K;simp only [adH,Ng,byK,gI,decide_true,cond_true,ih];cases h:isByte n<;>simp [cU,Qv,h]
theorem ahF {l:List MV}{M:List Int}{K:List UInt8->Option A} {K':List UInt8->Option B}(e:l=M.map (MV.i .u8))(h: ∀b,Sm g (K b) (K' b)):Sm g (Ng l K) (Qv M K'):=by
 subst e;rw [aau];unfold Qv;split
 ·exact h _
 ·rfl
theorem jF {d:A}{a:B}(e:d=g a):Sm g (some d) (some a):=by subst e;rfl
theorem xV {n:Nat}{l:List MV}{M:List α}{f:α->MV}(e:l=M.map f)(h: ∀x,(f x).w=n):o9 n l=true:=by subst e;unfold o9;rw [List.all_map,adn];intro x _;simp [h x]
theorem Qw {σ σ' ρ ρ':Type}{e:σ'->σ}{f:ρ'->ρ}{K:σ->Option (Sum σ ρ)} {K':σ'->Option (Sum σ' ρ')}(h: ∀s,Sm (Sum.map e f) (K (e s)) (K' s))(n:Nat)(s:σ'):iter K n (e s)=(iter K' n s).map f:=by
 induction n generalizing s with
 |zero=>rfl
 |succ n ih=>
  have:=h s;unfold Sm at this;simp only [iter,this];cases K' s with
  |none=>rfl
  |some x=>cases x with
   |inl s'=>exact ih s'
   |inr r=>rfl
theorem Mt {σ ρ:Type}{K:σ->Option (Sum σ ρ)}{s:σ}(h: ∀n,iter K n s=none):Loop K s=none:=by unfold Loop;rw [dif_neg];rintro ⟨r,n,e⟩;rw [h] at e;cases e
theorem dE {σ σ' ρ ρ':Type}{K:σ->Option (Sum σ ρ)} {K':σ'->Option (Sum σ' ρ')}{d0:σ}{s0:σ'}(e:σ'->σ)(f:ρ'->ρ)(e0:d0=e s0)(h: ∀s,Sm (Sum.map e f) (K (e s)) (K' s)):Sm f (Loop K d0) (Loop K' s0):=by
 subst e0;unfold Sm;by_cases hx: ∃r n,iter K' n s0=some r
 ·obtain ⟨r,n,hn⟩:=hx;rw [mY hn];have:iter K n (e s0)=some (f r):=by rw [Qw h,hn];rfl
  rw [mY this];rfl
 ·have h1: ∀n,iter K' n s0=none:=λn=>by
   cases hn:iter K' n s0 with
   |none=>rfl
   |some r=>exact absurd ⟨r,n,hn⟩ hx
  rw [Mt h1,Mt λn=>by rw [Qw h,h1];rfl];rfl
theorem xW {size bytes:Nat}{f:α->MV}(hw: ∀x,(f x).w=size)(l:List α):Sm (WJ f) (jq size bytes [.list (l.map f)]) (qD bytes l):=by
 unfold Sm jq qD;simp only [xV (rfl:l.map f=l.map f) hw,Bool.true_and,aci];by_cases h:l.length *bytes<=2^46
 ·rw [show acj (l.length *bytes) (2^46)=true from acg h,if_pos h];rfl
 ·rw [show acj (l.length *bytes) (2^46)=false from by rw [acf];intro hb;exact h (aaW hb),if_neg h];rfl
theorem Qx {bytes:Nat}{f:α->MV}(xs:List α)(i:Int)(ys:List α):Sm (WJ f) (po bytes [.fresh (xs.map f),.i .i64 i,.fresh (ys.map f)]) (Bg bytes xs i ys):=by
 unfold Sm po Bg;simp only [aci];have hb: ∀a b:Nat,acj a b=decide (a<=b):=λa b=>by
  by_cases h:a<=b
  ·rw [acg h,decide_eq_true h]
  ·rw [decide_eq_false h,acf];intro hh;exact h (aaW hh)
 rw [hb,hb];have he:(ys.map f).isEmpty=decide (ys=[]):=by cases ys<;>simp
 rw [he];by_cases h1:0<=i<;>by_cases h2:i.toNat<=xs.length<;>by_cases h3:ys=[]<;>by_cases h4:(xs.length+ys.length) *bytes<=2^46<;>simp [h1,h2,h3,h4,WJ]
end
abbrev ahG (f:Option MV):List MV->Option MV|[]=>f|_=>none
abbrev qE (f:MV->Option MV):List MV->Option MV|[a]=>f a|_=>none
abbrev jG (f:MV->MV->Option MV):List MV->Option MV|[a,b]=>f a b|_=>none
abbrev Cw (f:MV->MV->MV->Option MV):List MV->Option MV|[a,b,c]=>f a b c|_=>none
abbrev Tn (f:MV->MV->MV->MV->Option MV):List MV->Option MV|[a,b,c,d]=>f a b c d|_=>none
theorem ad7 {f:Option MV}{B:List MV->Option MV}(h:B []=f){ms:List MV}{r:MV}(e:ahG f ms=some r):B ms=some r:=by
 unfold ahG at e;split at e
 ·rw [h];exact e
 ·cases e
theorem eI {f:MV->Option MV}{B:List MV->Option MV}(h: ∀a,B [a]=f a){ms:List MV}{r:MV}(e:qE f ms=some r):B ms=some r:=by
 unfold qE at e;split at e
 ·rw [h];exact e
 ·cases e
theorem b9 {f:MV->MV->Option MV}{B:List MV->Option MV}(h: ∀a b,B [a,b]=f a b){ms:List MV}{r:MV}(e:jG f ms=some r):B ms=some r:=by
 unfold jG at e;split at e
 ·rw [h];exact e
 ·cases e
theorem mZ {f:MV->MV->MV->Option MV}{B:List MV->Option MV}(h: ∀a b c,B [a,b,c]=f a b c){ms:List MV}{r:MV}(e:Cw f ms=some r):B ms=some r:=by
 unfold Cw at e;split at e
 ·rw [h];exact e
 ·cases e
theorem DD {f:MV->MV->MV->MV->Option MV}{B:List MV->Option MV}(h: ∀a b c d,B [a,b,c,d]=f a b c d){ms:List MV}{r:MV}(e:Tn f ms=some r):B ms=some r:=by
 unfold Tn at e;split at e
 ·rw [h];exact e
 ·cases e
theorem dD.fn {P:Program} {c c':Ctx}{g:Nat->List MV->Option MV}{n:Nat}{fn:Func}{dh:List (List Kd)}{F:List MV->Option MV}(h:dD P c g)(hl:zX c c')(X1:c'.g=g)(mW:jA P c.ti)(jT:Nt P c.ti)(HN: ∀t k,c.fk t=some k->P.underlying t=some (.float k))(Pe:xI P c)(GS:P.follows .mixedOrders=true)(Dw:si P c)(hf:P.funcs[n]? =some fn)(hh:BU c' n fn dh=true)(vV: ∀f,c.key f=f){fresh:Option Nat}(EP:Cu c' n fn fresh=true)(hF: ∀{ms r},F ms=some r->LH c' dh fresh fn ms=some r):dD P c (bL n F g):=by have hb:=dD.body h hl X1 mW jT HN Pe GS Dw hf hh vV EP;refine h.add (λf ms r hk hr=> ?_);refine hb.all f ms r ?_;unfold bL;rw [hk];simp [hF hr]
end Dn
/-
  A function's body in which a map is gone through, or a label stands. Conditions: none.
-/
namespace Dn
open Go
section
variable {P:Program}{c:Ctx}{R:Type}{r:R}
theorem To {a b:Code}{l:Nat}(h:aap a b=some l):a= .goto l/\b= .skip:=by
 unfold aap at h;split at h
 ·cases h;exact ⟨rfl,rfl⟩
 ·cases h
theorem aav (hG:Good P c)(hD:Ir P c){l:Nat}{G:St->Option R}: ∀(code:Code) {Z:bJ} {e:Env} {st:St} {a:Act} {w:World} {K:Nat->St->Option R} {Q:Exit->Act->World->Prop},bX c Z e st a w->IY c l G code st K=some r-> (∀n e' bU a' w',bX c Z e' bU a' w'->Trans Z.In e.φ w e'.φ w'->K n bU=some r->Q (lH n) a' w')-> (∀e' bU a' w',bX c Z e' bU a' w'->Trans Z.In e.φ w e'.φ w'->G bU=some r->Q (.goto l) a' w')->code.wp P Q a w:=by
 intro code;induction code with
 |seq x y ihx ihy=>
  intro Z e st a w K Q h hK hQ hJ;simp only [IY] at hK;refine wp_seq (ihx h hK ?_ ?_)
  ·intro n e1 dk a1 w1 h1 t1 nP;by_cases hn:n=0
   ·subst hn;exact ihy h1 nP (λn e2 dM a2 w2 h2 t2 xp=>hQ n e2 dM a2 w2 h2 (t1.trans t2) xp) (λe2 dM a2 w2 h2 t2 xp=>hJ e2 dM a2 w2 h2 (t1.trans t2) xp)
   ·rw [wK hn];have:No n 0=false:=by rw [eD];simp [hn]
    simp only [this,cond_false] at nP;exact hQ n e1 dk a1 w1 h1 t1 nP
  ·intro e1 dk a1 w1 h1 t1 nP;exact hJ e1 dk a1 w1 h1 t1 nP
 |cond x y z _ _=>
  intro Z e st a w K Q h hK hQ hJ;simp only [IY] at hK;split at hK
  ·rename_i l' hg;obtain ⟨rfl,rfl⟩:=To hg;cases hb:No l' l with
   |false=>rw [hb] at hK;cases hK
   |true=>
    rw [hb] at hK;simp only [cond_true] at hK;have hb:=BY hb;subst hb;obtain ⟨hx,_⟩:=h.eval x;split at hK
    ·rename_i v hv;rw [hv] at hx;refine wp_cond (zE hx) ?_;cases v with
     |true=>exact wp_goto (hJ e st a w h (.refl _ _ _) hK)
     |false=>exact wp_skip (hQ 0 e st a w h (.refl _ _ _) hK)
    ·cases hK
  ·exact vh hG hD _ h hK hQ
 |label l'=>intro Z e st a w K Q h hK hQ hJ;exact wp_label (hQ 0 e st a w h (.refl _ _ _) hK)
 |_=>intro Z e st a w K Q h hK hQ hJ;simp only [IY] at hK;exact vh hG hD _ h hK hQ
theorem aaw (hG:Good P c)(hD:Ir P c): ∀(code:Code) {Z:bJ} {e:Env} {st:St} {a:Act} {w:World} {K:Nat->St->Option R} {Q:Exit->Act->World->Prop},bX c Z e st a w->Gb c code st K=some r-> (∀n e' bU a' w',bX c Z e' bU a' w'->Trans Z.In e.φ w e'.φ w'->K n bU=some r->Q (lH n) a' w')->code.wp P Q a w:=by
 intro code;induction code with
 |seq x y _ ihy=>
  intro Z e st a w K Q h hK hQ;simp only [Gb] at hK;have nxt: ∀n e1 dk a1 w1,bX c Z e1 dk a1 w1->Trans Z.In e.φ w e1.φ w1->(bif No n 0 then Gb c y dk K else K n dk)=some r->Exit.then (y.wp P Q) Q (lH n) a1 w1:=by
   intro n e1 dk a1 w1 h1 t1 nP;by_cases hn:n=0
   ·subst hn;exact ihy h1 nP (λn e2 dM a2 w2 h2 t2 xp=>hQ n e2 dM a2 w2 h2 (t1.trans t2) xp)
   ·rw [wK hn];have:No n 0=false:=by rw [eD];simp [hn]
    simp only [this,cond_false] at nP;exact hQ n e1 dk a1 w1 h1 t1 nP
  split at hK
  ·rename_i q hq;exact wp_seq (ahz hG hD hq h hK nxt)
  ·exact wp_seq (vh hG hD _ h hK nxt)
 |scope b _=>
  intro Z e st a w K Q h hK hQ;simp only [Gb] at hK;split at hK
  ·rename_i rest hf;have hx: ∀(J:Act->World->Prop) n (a':Act) (w':World),Q (lH n) a' w'->Exit.jump 0 J Q (lH n) a' w':=by
    intro J n a' w' hq;match n,hq with
    |0,hq=>exact hq
    |1,hq=>exact hq
    |n+2,hq=>exact hq
   refine wp_scope_jumps 0 (λa' w'=> ∃e' bU,bX c Z e' bU a' w'/\Trans Z.In e.φ w e'.φ w'/\kZ c rest R bU K=some r) (λ_ _=>0) hf ?_ ?_
   ·refine aav hG hD b h hK (λn e' bU a' w' h' t' hK'=>hx _ n a' w' (hQ n e' bU a' w' h' t' hK')) ?_;intro e' bU a' w' h' t' hK';exact ⟨rfl,e',bU,h',t',hK'⟩
   ·rintro a1 w1 ⟨e1,dk,h1,t1,nP⟩;refine vh hG hD rest h1 nP ?_;intro n e' bU a' w' h' t' hK';exact hx _ n a' w' (hQ n e' bU a' w' h' (t1.trans t') hK')
  ·cases hK
 |_=>intro Z e st a w K Q h hK hQ;simp only [Gb] at hK;exact vh hG hD _ h hK hQ
end
theorem dD.Qr {P:Program} {c c':Ctx}{g:Nat->List MV->Option MV}{n:Nat}{fn:Func}{dh:List (List Kd)}(h:dD P c g)(hl:zX c c')(X1:c'.g=g)(mW:jA P c.ti)(jT:Nt P c.ti)(HN: ∀t k,c.fk t=some k->P.underlying t=some (.float k))(Pe:xI P c)(GS:P.follows .mixedOrders=true)(Dw:si P c)(hf:P.funcs[n]? =some fn)(hh:BU c' n fn dh=true)(vV: ∀f,c.key f=f){fresh:Option Nat}(EP:Cu c' n fn fresh=true):dD P c (bL n (Dn.Qr c' dh fresh fn) g):=by
 have hG:Good P c':=by
  refine ⟨by rw [hl.ti];exact mW,by rw [hl.ti];exact jT,λf ms r hr=> ?_,by rw [hl.fk];exact HN,λt s hs=>Pe t s ?_⟩
  ·rw [X1,hl.key] at hr;exact (h.all f ms r hr).lf hl
  ·rw [<-hs];unfold vQ Ctx.tv;rw [hl.mt,hl.ti]
 refine h.add (λf ms r hk hr=> ?_);rw [vV] at hk;subst hk;simp only [BU,aca,adk] at hh;obtain ⟨⟨⟨h1,h2⟩,h3⟩,h4⟩:=hh;have hD:=IH hG GS (Dw.lf hl);exact (P0 (λb {r Z e st a w K Q} h hK hQ=>aaw hG hD b h hK hQ) hG hf h1 (BY h2) (aaW h3) (by rw [hl.key,vV];exact h4) (by rw [hl.key,vV];exact Mf EP) hr).lf hl.symm
theorem dD.fnX {P:Program} {c c':Ctx}{g:Nat->List MV->Option MV}{n:Nat}{fn:Func}{dh:List (List Kd)}{F:List MV->Option MV}(h:dD P c g)(hl:zX c c')(X1:c'.g=g)(mW:jA P c.ti)(jT:Nt P c.ti)(HN: ∀t k,c.fk t=some k->P.underlying t=some (.float k))(Pe:xI P c)(GS:P.follows .mixedOrders=true)(Dw:si P c)(hf:P.funcs[n]? =some fn)(hh:BU c' n fn dh=true)(vV: ∀f,c.key f=f){fresh:Option Nat}(EP:Cu c' n fn fresh=true)(hF: ∀{ms r},F ms=some r->Dn.Qr c' dh fresh fn ms=some r):dD P c (bL n F g):=by have hb:=dD.Qr h hl X1 mW jT HN Pe GS Dw hf hh vV EP;refine h.add (λf ms r hk hr=> ?_);refine hb.all f ms r ?_;unfold bL;rw [hk];simp [hF hr]
theorem aax {α ρ ρ':Type}{e:α->MV}{f:ρ'->ρ}{K:MV->Option (Sum Unit ρ)} {K':α->Option (Sum Unit ρ')}{d:Option ρ} {d':Option ρ'}{l:List MV}{M:List α}(hl:l=M.map e)(hd:Sm f d d')(h: ∀x,Sm (Sum.map id f) (K (e x)) (K' x)): Sm f (uc K d l) (uc K' d' M):=by
 subst hl;have hg: ∀x,xR (K (e x))=xR (K' x):=by
  intro x;rw [h x];cases K' x with
  |none=>rfl
  |some y=>cases y<;>rfl
 unfold Sm;induction M with
 |nil=>exact hd
 |cons x M ih=>
  have hx:=h x;unfold Sm at hx;simp only [adH,uc,hx];cases hk:K' x with
  |none=>rfl
  |some y=>
   cases y with
   |inl u=>exact ih
   |inr r=>
    simp only [adA,Sum.map_inr,List.all_map];have:(M.all ((λy=>xR (K y))∘e))=M.all λy=>xR (K' y):=by congr 1;funext y;exact hg y
    rw [this];cases M.all λy=>xR (K' y)<;>rfl
theorem ahH {A B:Type}{g:B->A}{m:MV}{K:List UInt8->Int->Option A} {K':List UInt8->Int->Option B}(h: ∀key n,Sm g (K key n) (K' key n)):Sm g (Qq m K) (Qq m K'):=by
 have hN: ∀{l:List MV} {X:Option A} {X':Option B},Sm g X X'->Sm g (gN l X) (gN l X'):=by intro l X X' h;cases l<;>first|exact h|rfl
 have hC: ∀{l:List MV} {X:MV->List MV->Option A} {X':MV->List MV->Option B},(∀a b,Sm g (X a b) (X' a b))->Sm g (gC l X) (gC l X'):=by intro l X X' h;cases l<;>first|exact h _ _|rfl
 unfold Qq;cases m<;>first|rfl|skip
 refine hC λka r=> ?_;cases ka<;>first|rfl|skip
 refine hC λk0 kr=>hN ?_;cases k0<;>first|rfl|skip
 refine hC λv0 vr=>hN ?_;cases v0<;>first|rfl|skip
 rename_i k n;simp only [gI];cases decide (k=IntKind.i64)<;>first|rfl|exact h _ _
theorem Va {A B:Type}{g:B->A}{p q:Prop}[Decidable p][Decidable q]{X:Option A} {X':Option B}(e:p↔q)(h1:Sm g X X'):Sm g (cU (decide p) X) (if q then X' else none):=by
 by_cases hp:p
 ·rw [if_pos (e.1 hp),decide_eq_true hp];exact h1
 ·rw [if_neg (λh=>hp (e.2 h)),decide_eq_false hp];rfl
theorem Tp {A B:Type}{g:B->A}{T:Option B}{x:List MV}{K:List MV->Option A}(h:Sm g (K x) T):Sm g (gCl (.clip x) K) T:=h
@[reducible] def afP {α : Type}(f : α -> MV)(l : List α) : MV := .clip (l.map f)
end Dn
/-
  Reasoning about functions on typed values. Conditions: none.
-/
namespace Dn
open Go
section
variable {α R:Type}
theorem bA {l:List α}{k:Nat}(h:k<l.length)(K:α->Option R):ix l (k:Int) K=K l[k]:=by simp [ix,h]
theorem TL {l:List α}{i:Int}(h0:0<=i)(h:i.toNat<l.length)(K:α->Option R):ix l i K=K l[i.toNat]:=by simp [ix,h,h0]
theorem yw {l:List α}(h:0<l.length)(K:α->Option R):ix l 0 K=K l[0]:=by simp [ix,h]
theorem amX {A:Type}(c:Prop)[Decidable c](x y:Option A)(K:A->Option R):bd (if c then x else y) K=if c then bd x K else bd y K:=by split<;>rfl
@[simp] theorem abk {A : Type}(x : Option A) : bd x (λa => some a) = x := by cases x <;> rfl
end
def aL {A:Type}(x:Option A)(Q:A->Prop):Prop:= ∃a,x=some a/\Q a
section
variable {A B α σ ρ:Type}
theorem aL.mk {a:A}{Q:A->Prop}(h:Q a):aL (some a) Q:=⟨a,rfl,h⟩
theorem aL.of {x:Option A}{a:A}{Q:A->Prop}(e:x=some a)(h:Q a):aL x Q:=⟨a,e,h⟩
theorem aL.bd {x:Option A}{K:A->Option B}{P:A->Prop}{Q:B->Prop}(h:aL x P)(hk: ∀a,P a->aL (K a) Q):aL (bd x K) Q:=by obtain ⟨a,rfl,hp⟩:=h;exact hk a hp
theorem aL.ite {c:Prop}[Decidable c]{x y:Option A}{Q:A->Prop}(h1:c->aL x Q)(h2: ¬c->aL y Q):aL (if c then x else y) Q:=by
 split
 ·exact h1 ‹_›
 ·exact h2 ‹_›
theorem aL.imp {x:Option A}{P Q:A->Prop}(h:aL x P)(SQ: ∀a,P a->Q a):aL x Q:=by obtain ⟨a,e,hp⟩:=h;exact ⟨a,e,SQ a hp⟩
theorem aL.ix {l:List α}{k:Nat}{K:α->Option A}{Q:A->Prop}(h:k<l.length)(hk:aL (K l[k]) Q):aL (ix l (k:Int) K) Q:=by rw [bA h];exact hk
theorem aL.eq {x:Option A}{a:A}(h:aL x (· =a)):x=some a:=by obtain ⟨b,e,rfl⟩:=h;exact e
variable {body:σ->Option (Sum σ ρ)}
theorem aL.loop (I:σ->Prop) (μ:σ->Nat){Q:ρ->Prop}{s:σ}(hs:I s)(h: ∀s,I s->aL (body s) λx=>match x with| .inl s'=>I s'/\μ s'<μ s| .inr r=>Q r):aL (Loop body s) Q:=by
 refine aar I μ Q (λs hs=> ?_) hs;obtain ⟨x,e,hx⟩:=h s hs;cases x with
 |inl s'=>exact .inl ⟨s',e,hx⟩
 |inr r=>exact .inr ⟨r,e,hx⟩
theorem aL.count (S:Nat->σ)(n:Nat){Q:ρ->Prop}(P:Nat->Prop){s:σ}(e:s=S 0)(h0:P 0)(h: ∀k,k<n->P k->aL (body (S k)) λx=>match x with| .inl s'=>s'=S (k+1)/\P (k+1)| .inr r=>Q r)(he:P n->aL (body (S n)) λx=>match x with| .inl _=>False| .inr r=>Q r):aL (Loop body s) Q:=by
 subst e;refine aas S n Q P h0 (λk hk hp=> ?_) (λhp=> ?_)
 ·obtain ⟨x,e,hx⟩:=h k hk hp;cases x with
  |inl s'=>obtain ⟨rfl,hx⟩:=hx;exact .inl ⟨e,hx⟩
  |inr r=>exact .inr ⟨r,e,hx⟩
 ·obtain ⟨x,e,hx⟩:=he hp;cases x with
  |inl s'=>exact hx.elim
  |inr r=>exact ⟨r,e,hx⟩
end
theorem wrap64 {x:Int}(h1: -9223372036854775808<=x)(h2:x<=9223372036854775807):AI .i64 x=x:=ad6 h1 h2
end Dn
/-
  Functions of the library, on typed values. Conditions: none.
-/
namespace Dn
open Go
def OG (x y:Int):Int:=if x<y then-1 else if y<x then 1 else 0
def qQ {α:Type}(key:α->Int)(L:List α)(s:Int):Nat:=L.countP (λe=>decide (key e<s))
def qk {α:Type}(key:α->Int)(L:List α)(s:Int):Bool:=L.any λe=>decide (key e=s)
def o8 {α:Type}(key:α->Int)(L:List α):Prop:=L.Pairwise λa b=>key a<key b
section
variable {α τ:Type}{key:α->Int}
theorem ais {L:List α}{s:Int}{p:Nat}(hp:p<=L.length)(h1: ∀k (hk:k<L.length),k<p->key L[k]<s)(h2: ∀k (hk:k<L.length),p<=k->s<=key L[k]):qQ key L s=p:=by
 have h3:(L.take p).countP (λe=>decide (key e<s))=(L.take p).length:=by
  rw [List.countP_eq_length];intro a ha;obtain ⟨k,hk,rfl⟩:=abK.1 ha;have Pb:k<p:=by rw [adr] at hk;omega
  rw [List.getElem_take];exact decide_eq_true (h1 k (by omega) Pb)
 have h4:(L.drop p).countP (λe=>decide (key e<s))=0:=by rw [List.countP_eq_zero];intro a ha;obtain ⟨k,hk,rfl⟩:=abK.1 ha;rw [List.length_drop] at hk;rw [List.getElem_drop];have:=h2 (p+k) (by omega) (by omega);simp;omega
 have h5:qQ key L s=(L.take p++L.drop p).countP (λe=>decide (key e<s)):=by rw [List.take_append_drop];rfl
 rw [h5,List.countP_append,h3,h4,adr];omega
theorem o8.lt {L:List α}(hs:o8 key L){i j:Nat}(hj:j<L.length)(h:i<j):key (L[i]'(by omega))<key L[j]:=List.pairwise_iff_getElem.1 hs i j (by omega) hj h
theorem o8.le {L:List α}(hs:o8 key L){i j:Nat}(hj:j<L.length)(h:i<=j):key (L[i]'(by omega))<=key L[j]:=by
 rcases Nat.lt_or_eq_of_le h with h|h
 ·exact Int.le_of_lt (hs.lt hj h)
 ·subst h;exact Int.le_refl _
theorem CM (L:List α)(s:Int):qQ key L s<=L.length:=List.countP_le_length
theorem o8.lb {L:List α}(hs:o8 key L)(s:Int):(∀k (hk:k<L.length),k<qQ key L s->key L[k]<s)/\(∀k (hk:k<L.length),qQ key L s<=k->s<=key L[k]):=by
 have: ∃p,p<=L.length/\(∀k (hk:k<L.length),k<p->key L[k]<s)/\(∀k (hk:k<L.length),p<=k->s<=key L[k]):=by
  induction L with
  |nil=>exact ⟨0,IT _,λk hk=>by simp at hk,λk hk=>by simp at hk⟩
  |cons a l ih=>
   have yG:=List.pairwise_cons.1 hs;by_cases ha:key a<s
   ·obtain ⟨p,h1,h2,h3⟩:=ih yG.2;refine ⟨p+1,by simp;omega,λk hk hkp=> ?_,λk hk hkp=> ?_⟩
    ·cases k with
     |zero=>exact ha
     |succ k=>exact h2 k (by simpa using hk) (by omega)
    ·cases k with
     |zero=>omega
     |succ k=>exact h3 k (by simpa using hk) (by omega)
   ·refine ⟨0,adS _,λk hk hkp=>by omega,λk hk _=> ?_⟩;cases k with
    |zero=>simp;omega
    |succ k=>have:=yG.1 (l[k]'(by simpa using hk)) (adw _);simp only [List.getElem_cons_succ];omega
 obtain ⟨p,h1,h2,h3⟩:=this;rw [ais h1 h2 h3];exact ⟨h2,h3⟩
theorem o8.has {L:List α}(hs:o8 key L)(s:Int):qk key L s=true↔ ∃h:qQ key L s<L.length,key L[qQ key L s]=s:=by
 obtain ⟨h1,h2⟩:=hs.lb s;unfold qk;rw [List.any_eq_true];constructor
 ·rintro ⟨x,hx,he⟩;obtain ⟨k,hk,rfl⟩:=abK.1 hx;have he:key L[k]=s:=by simpa using he
  have VX:qQ key L s<=k:=by refine Nat.le_of_not_lt λcT=> ?_;have:=h1 k hk cT;omega
  have hl:qQ key L s<L.length:=by omega
  refine ⟨hl,?_⟩;have:=h2 _ hl (IT _);have:=hs.le hk VX;omega
 ·rintro ⟨h,he⟩;exact ⟨_,adw h,decide_eq_true he⟩
theorem AE {L:List α}{s:Int}:qk key L s=true↔ ∃x∈L,key x=s:=by simp [qk]
noncomputable def bsL (x:List α)(target:τ)(cmp:α->τ->Option Int)(st:Int×Int):Option ((Int×Int)⊕Int):=if st.1<st.2 then
 if (0:Int)<=1 then
 ix x (AI .i64 (adB (AI .u64 (AI .i64 (st.1+st.2))) (2^min (acZ 1) (ace .u64)))) λy=>
 bd (cmp y target) λrA=>
 bd (if rA<0 then
  some (AI .i64 ((AI .i64 (adB (AI .u64 (AI .i64 (st.1+st.2))) (2^min (acZ 1) (ace .u64))))+1),st.2)
  else
  some (st.1,AI .i64 (adB (AI .u64 (AI .i64 (st.1+st.2))) (2^min (acZ 1) (ace .u64)))):Option (Int×Int)) λw1=>
 some (.inl (w1.1,w1.2))
 else none
 else
 some (.inr st.1)
noncomputable def bsearch (x:List α)(target:τ)(cmp:α->τ->Option Int):Option (Int×Bool):=bd (Loop (bsL x target cmp) (0,(x.length:Int))) λw=>
 bd (if w<(x.length:Int) then
  ix x w λy1=>
  bd (cmp y1 target) λbt=>
  some (w,decide (bt=0))
  else
  some (w,false):Option (Int×Bool)) λw2=>
 some (w2.1,w2.2)
theorem Kc {L:List α}{s:Int}{cmp:α->Int->Option Int}(hs:o8 key L)(hl:L.length<2^60)(hc: ∀a,cmp a s=some (OG (key a) s)):bsearch L s cmp=some ((qQ key L s:Int),qk key L s):=by
 obtain ⟨uO,qV⟩:=hs.lb s;have hle:=CM (key:=key) L s;have Ke:Loop (bsL L s cmp) (0,(L.length:Int))=some (qQ key L s:Int):=by
  refine aL.eq (aL.loop (λst=> ∃i j:Nat,st=((i:Int),(j:Int))/\i<=qQ key L s/\qQ key L s<=j/\j<=L.length) (λst=>(st.2-st.1).toNat) ⟨0,L.length,rfl,adS _,hle,IT _⟩ ?_);rintro st ⟨i,j,rfl,hi,hj,C2⟩;unfold bsL;by_cases cT:i<j
  ·have hm:(i+j)/2<L.length:=by omega
   simp only [show ((i:Int)<(j:Int)) by omega,if_true,show ((0:Int)<=1) by decide,ahE (by omega:i+j<2^62),bA hm,hc,au];by_cases hlb:(i+j)/2<qQ key L s
   ·have hk:=uO _ hm hlb;have:OG (key L[(i+j)/2]) s= -1:=by simp [OG,hk]
    simp only [this,show ((-1:Int)<0) by decide,if_true,au];rw [wrap64 (by omega) (by omega)];exact .mk ⟨⟨(i+j)/2+1,j,by simp,by omega,hj,C2⟩,by omega⟩
   ·have hk:=qV _ hm (by omega);have: ¬OG (key L[(i+j)/2]) s<0:=by unfold OG;rw [if_neg (by omega)];split<;>omega
    simp only [this,if_false,au];exact .mk ⟨⟨i,(i+j)/2,rfl,hi,by omega,by omega⟩,by omega⟩
  ·simp only [show¬((i:Int)<(j:Int)) by omega,if_false];exact .mk (by show (i:Int)=(qQ key L s:Int);omega)
 unfold bsearch;rw [Ke];simp only [au];by_cases cT:qQ key L s<L.length
 ·simp only [show ((qQ key L s:Int)<(L.length:Int)) by omega,if_true,bA cT,hc,au];have h3:=qV _ cT (IT _);have:decide (OG (key L[qQ key L s]) s=0)=qk key L s:=by
   unfold OG;rw [if_neg (by omega)];by_cases he:key L[qQ key L s]=s
   ·rw [if_neg (by omega),decide_eq_true rfl,(hs.has s).2 ⟨cT,he⟩]
   ·rw [if_pos (by omega),decide_eq_false (by decide)];symm;rw [acf];intro hh;obtain ⟨_,hh⟩:=(hs.has s).1 hh;exact he hh
  rw [this]
 ·simp only [show¬((qQ key L s:Int)<(L.length:Int)) by omega,if_false,au];have:qk key L s=false:=by rw [acf];intro hh;obtain ⟨hh,_⟩:=(hs.has s).1 hh;exact cT hh
  rw [this]
def OH (key:α->Int)(L:List α)(a:α):List α:=L.take (qQ key L (key a))++[a]++L.drop (qQ key L (key a))
theorem Kf {L:List α}{a:α} {by':Nat}(hb:(L.length+1) *by'<=2^46):Bg by' L (qQ key L (key a):Int) [a]=some (OH key L a):=by
 unfold Bg;rw [if_pos]
 ·rfl
 ·exact ⟨by omega,by simpa using CM L _,by simp,by simpa using hb⟩
theorem iq {L:List α} {by':Nat}(h:L.length *by'<=2^46):qD by' L=some L:=if_pos h
end
section
variable {α ρ:Type}
theorem Rc {body:Int->Option (Int⊕(Unit⊕ρ))}(n:Nat)(p:Nat->Prop)(c:ρ)(h: ∀k,k<n->(∀j,j<k->p j)->(p k->body (k:Int)=some (.inl ((k+1:Nat):Int)))/\(¬p k->body (k:Int)=some (.inr (.inr c))))(he:body (n:Int)=some (.inr (.inl ()))):aL (Loop body 0) λr=>(r= .inl ()/\ ∀k,k<n->p k)\/(r= .inr c/\ ∃k,k<n/\ ¬p k):=by
 refine aL.count (λk=>(k:Int)) n (λk=> ∀j,j<k->p j) rfl (λj hj=>by omega) (λk hk hp=> ?_) (λhp=> ?_)
 ·by_cases hpk:p k
  ·refine .of ((h k hk hp).1 hpk) ⟨rfl,λj hj=> ?_⟩;by_cases hjk:j=k
   ·subst hjk;exact hpk
   ·exact hp j (by omega)
  ·exact .of ((h k hk hp).2 hpk) (.inr ⟨rfl,k,hk,hpk⟩)
 ·exact .of he (.inl ⟨rfl,hp⟩)
theorem Xi [DecidableEq α]{a b:List α}{body:Int->Option (Int⊕(Unit⊕Bool))}(hl:a.length=b.length)(h: ∀k (ha:k<a.length)(hb:k<b.length),body (k:Int)=some (if a[k]=b[k] then .inl ((k+1:Nat):Int) else .inr (.inr false)))(he:body (a.length:Int)=some (.inr (.inl ()))):Loop body 0=some (if a=b then .inl () else .inr false):=by
 obtain ⟨r,e,hr⟩:=Rc (body:=body) a.length (λk=>a[k]? =b[k]?) false (λk hk _=>by
  have hkb:k<b.length:=by omega
  rw [cM hk,cM hkb,h k hk hkb];constructor
  ·intro hh;rw [if_pos (by simpa using hh)]
  ·intro hh;rw [if_neg (by simpa using hh)]) he
 rw [e];rcases hr with ⟨rfl,kF⟩|⟨rfl,k,hk,db⟩
 ·rw [if_pos];refine acd λk=> ?_;by_cases hk:k<a.length
  ·exact kF k hk
  ·rw [ab9 (by omega),ab9 (by omega)]
 ·rw [if_neg];intro hab;subst hab;exact db rfl
end
end Dn
/-
  Maps as lists of entries: what is there behind a store. Conditions: none.
-/
namespace Dn
open Go
theorem yx (es:List MV)(ks:List MV):cy es ks<=es.length:=by rw [eX];have:=Dl (es.map km) ks;simpa using this
theorem Ej {jE:List (List MV)}{ks KH:List MV}(h:eO KH ks=false):fZ (jE++[KH]) ks=if fZ jE ks<jE.length then fZ jE ks else jE.length+1:=by
 induction jE with
 |nil=>simp [fZ,h]
 |cons q r ih=>
  simp only [adx,fZ,acv];rcases Bool.eq_false_or_eq_true (eO q ks) with hm|hm
  ·simp [hm]
  ·have:=Dl r ks;simp only [hm,cond_false];by_cases hl:fZ r ks<r.length
   ·simp [hl,ih]
   ·simp [hl,ih]
theorem Fx {jE:List (List MV)}{ks:List MV}(hr:eO ks ks=true)(h:fZ jE ks=jE.length):fZ (jE++[ks]) ks=jE.length:=by
 induction jE with
 |nil=>simp [fZ,hr]
 |cons q r ih=>
  simp only [adx,fZ,acv] at h⊢;cases hm:eO q ks with
  |true=>simp [hm] at h
  |false=>simp only [hm,cond_false] at h⊢;rw [ih (by omega)]
theorem Re {jE:List (List MV)}{ks:List MV}(h:fZ jE ks<jE.length):jE[fZ jE ks]? =some ks:=by
 obtain ⟨q,hq⟩: ∃q,jE[fZ jE ks]? =some q:=⟨_,cM h⟩
 rw [hq,H7 hq]
theorem Kg (ks:List MV)(v:MV):km (.dH [.agg ks,v])=ks:=rfl
def BG (es ks:List MV)(z v:MV):List MV:=tJ (nE es ks z) (cy es ks) v
theorem Fy {es ks:List MV}{z v:MV}:(BG es ks z v).map km=if cy es ks<es.length then es.map km else es.map km++[ks]:=by
 have hle:=yx es ks;unfold BG nE;rw [eD];by_cases h:cy es ks=es.length
 ·simp only [h,decide_true,cond_true];unfold tJ;simp [Kg]
 ·have cT:cy es ks<es.length:=by omega
  simp only [h,decide_false,cond_false,cT,if_true];unfold tJ;rw [cM cT];simp only;apply acd;intro i;rw [ab5,ab5,List.getElem?_set];by_cases hi:cy es ks=i
  ·subst hi;simp [cT,Kg]
  ·simp [hi]
theorem aeo {es ks:List MV}{z v:MV}:(BG es ks z v)[cy es ks]? =some (.dH [.agg ks,v]):=by
 have hle:=yx es ks;unfold BG nE;rw [eD];by_cases h:cy es ks=es.length
 ·simp only [h,decide_true,cond_true];unfold tJ;simp [Kg]
 ·have cT:cy es ks<es.length:=by omega
  simp only [h,decide_false,cond_false];unfold tJ;rw [cM cT];have hk:km es[cy es ks]=ks:=by
   have h1:(es.map km)[fZ (es.map km) ks]? =some (km es[cy es ks]):=by rw [<-eX,ab5,cM cT];rfl
   exact H7 h1
  simp [cT,hk]
theorem TM {es ks:List MV}{z v:MV}{i:Nat}(hi:i<es.length)(db:i≠cy es ks):(BG es ks z v)[i]? =es[i]? :=by
 have hle:=yx es ks;unfold BG nE;rw [eD];by_cases h:cy es ks=es.length
 ·simp only [h,decide_true,cond_true];unfold tJ;simp only [List.getElem?_append_right (IT _),Nat.sub_self,List.getElem?_cons_zero];rw [acP (by omega),List.getElem?_append_left hi]
 ·have cT:cy es ks<es.length:=by omega
  simp only [h,decide_false,cond_false];unfold tJ;rw [cM cT];simp only;rw [acP (λe=>db e.symm)]
theorem abl {es ks:List MV}{z v:MV}:(BG es ks z v).length=if cy es ks<es.length then es.length else es.length+1:=by have h:((BG es ks z v).map km).length=_:=congrArg List.length Fy;rw [aci] at h;rw [h];split<;>simp
def TN (es ks:List MV):Option MV:=(es[cy es ks]?).map acy
theorem Rf (es ks:List MV):nN es ks=match TN es ks with|some v=>asI v|none=>0:=by unfold nN TN;cases es[cy es ks]? <;>rfl
theorem Lt {es ks:List MV}{z v:MV}(hr:eO ks ks=true):TN (BG es ks z v) ks=some v:=by
 have hle:=yx es ks;have:cy (BG es ks z v) ks=cy es ks:=by
  rw [eX,Fy,eX];split
  ·rfl
  ·rename_i h;have h1:=Dl (es.map km) ks;simp only [aci] at h1⊢;have h2:fZ (es.map km) ks=(es.map km).length:=by simp;omega
   rw [Fx hr h2,h2]
 unfold TN;rw [this,aeo];rfl
theorem Kh {es ks KH:List MV}{z v:MV}(db:eO ks KH=false):TN (BG es ks z v) KH=TN es KH:=by
 unfold TN;have axM:=yx es KH;have hle:=yx es ks;have Mc:cy (BG es ks z v) KH=if cy es ks<es.length then cy es KH else if cy es KH<es.length then cy es KH else es.length+1:=by
  rw [eX,Fy];split
  ·rw [eX]
  ·rw [Ej db,<-eX];simp
 by_cases cT:cy es KH<es.length
 ·have hm:cy (BG es ks z v) KH=cy es KH:=by rw [Mc];simp [cT]
  have arB:cy es KH≠cy es ks:=by
   intro he;have h1:=Re (jE:=es.map km) (ks:=KH) (by rw [<-eX];simpa using cT);have h2:=Re (jE:=es.map km) (ks:=ks) (by rw [<-eX,<-he];simpa using cT);rw [<-eX,he,eX,h2] at h1;cases h1;have hq:eO ks ks=true:=by
    have:=cT;rw [he] at this;have h3: ∀(l:List (List MV)),fZ l ks<l.length-> ∃q,eO q ks=true:=by
     intro l;induction l with
     |nil=>intro h;simp [fZ] at h
     |cons q r ih=>
      intro h;simp only [fZ] at h;cases hm:eO q ks with
      |true=>exact ⟨q,hm⟩
      |false=>simp only [hm,cond_false,acv] at h;exact ih (by omega)
    obtain ⟨q,hq⟩:=h3 (es.map km) (by rw [<-eX];simpa using this);have:=PO hq;subst this;exact hq
   rw [hq] at db;cases db
  rw [hm,TM cT arB]
 ·have FO:es[cy es KH]? =none:=by rw [acq];omega
  rw [FO];have hlen:=abl (es:=es) (ks:=ks) (z:=z) (v:=v);have:(BG es ks z v)[cy (BG es ks z v) KH]? =none:=by
   rw [acq,Mc,hlen];repeat' split
   all_goals omega
  rw [this]
end Dn
