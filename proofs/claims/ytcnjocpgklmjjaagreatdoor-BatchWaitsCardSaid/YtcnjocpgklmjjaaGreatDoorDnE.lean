import Derived.Test.YtcnjocpgklmjjaaGreatDoorDnD
import Derived.Laws.RangeString
/- What Go functions come to, on plain values. Conditions: none. -/
open List renaming length_map→bD,length_cons→sh,length_nil→AI,getElem?_eq_getElem→By,mem_iff_getElem→BY,length_take→IN,length_append→IT,take_append_drop→No,getElem_mem→OF,map_append→ab2,length_drop→ac4,take_length→ad1,append_assoc→ad5,drop→aec,take→aeY,map_take→aft,map_drop→afu,getElem_map→afv,map_cons→afw,map_nil→afz,map_set→afC,length_set→afD,map→afE,mem_singleton→afG,all_eq_true→afH,drop_eq_getElem_cons→afI,take_add_one→afJ,dropLast_eq_take→afK,length_filter_le→afL,map_replicate→afN,findIdx?_eq_some_iff_getElem→afT,takeWhile_append_dropWhile→agM,replicate→agN,getElem_cons_succ→agV,drop_of_length_le→ag7,append_nil→ahs,getElem_drop→ahB,getD_eq_getElem?_getD→ahF,mem_or_eq_of_mem_set→aie,nil_append→ako,set_getElem_self→aku,mem_of_mem_take→akw,getLast?_eq_some_getLast→akx,pairwise_append→aky,drop_append_of_le_length→akz,mem_append→akA,take_succ_cons→akD,flatMap_append→akE,map_eq_nil_iff→akF,filter_sublist→akG,filter_eq_self→akH,getElem?_eq_some_iff→akO,pairwise_iff_getElem→akT,getElem_cons_zero→akW,filter_eq_nil_iff→ak0,mem_filter→ak3,length_dropLast→alv,map_congr_left→alC,pairwise_cons→alD,getElem_take→alR,drop_append→al0,length→al3,map_map→amA,mem_map→anV
open Int renaming toNat→AS,toNat_natCast→afB,tdiv_eq_ediv_of_nonneg→agu,fdiv→ajW,fdiv_eq_ediv_of_nonneg→akK,tmod_eq_emod_of_nonneg→akL,natCast_nonneg→akM
open Go.IntKind renaming wrap→AT,bits→afx,signed→amj
open Go.Op renaming bytesLess→afy
open Bool renaming and_eq_true→afA,false_eq_true→afF,true_and→agK,not_false→agO,not_true→akn,or_eq_true→akp,eq_false_iff→akt,not_eq_true'→alX,false_and→amk,and_true→amt
open Nat renaming lt_trichotomy→af2,le_refl→agG,pow_le_pow_right→ahE,le_trans→ahQ,min_eq_left→akB,pow_succ→akI,add_mul_div_right→alj,ble_eq_true_of_le→alm,mul_le_mul_right→alu,zero_mul→alL,zero_add→alP,mul_comm→alQ,mod_eq_of_lt→alY,zero_le→amd,add_comm→amz,sub_self→amP
open Option renaming map_some→ags
open List.Pairwise renaming sublist→agx
open Sum renaming elim→ait
open ByteArray renaming getElem_eq_getElem_data→akq
open BitVec renaming ofInt→akr,toNat_ofNat→akJ
open Option.some renaming injEq→aks
open Go.Lib renaming indexByte→akv,trimS→amy
open List.cons renaming injEq→akC
open UInt8 renaming toNat_inj→ak2,ofNat→an0
open Go.Lit renaming int→alB
set_option linter.all false
set_option maxRecDepth 100000
open Go Dn
namespace Dn.S
noncomputable section
section
@[reducible] def v0 (r : Int × (List ab) × Int × (List aB) × (List aq) × (List ah) × Int × Int × Int × (List UInt8) × (List UInt8) × Int × Int × Int × Int × Int × Int × (List UInt8) × Int × (List (List UInt8)) × (List az)) : List MV := [.i .i64 r.1, .list (r.2.1.map bE), .i .i64 r.2.2.1, .list (r.2.2.2.1.map bq), .list (r.2.2.2.2.1.map bA), .list (r.2.2.2.2.2.1.map aU), .i .i64 r.2.2.2.2.2.2.1, .i .i64 r.2.2.2.2.2.2.2.1, .i .i64 r.2.2.2.2.2.2.2.2.1, .s r.2.2.2.2.2.2.2.2.2.1, .s r.2.2.2.2.2.2.2.2.2.2.1, .i .i64 r.2.2.2.2.2.2.2.2.2.2.2.1, .i .i64 r.2.2.2.2.2.2.2.2.2.2.2.2.1, .i .i64 r.2.2.2.2.2.2.2.2.2.2.2.2.2.1, .i .i64 r.2.2.2.2.2.2.2.2.2.2.2.2.2.2.1, .i .i64 r.2.2.2.2.2.2.2.2.2.2.2.2.2.2.2.1, .i .i64 r.2.2.2.2.2.2.2.2.2.2.2.2.2.2.2.2.1, .s r.2.2.2.2.2.2.2.2.2.2.2.2.2.2.2.2.2.1, .i .i64 r.2.2.2.2.2.2.2.2.2.2.2.2.2.2.2.2.2.2.1, .list (r.2.2.2.2.2.2.2.2.2.2.2.2.2.2.2.2.2.2.2.1.map MV.s), .list (r.2.2.2.2.2.2.2.2.2.2.2.2.2.2.2.2.2.2.2.2.map eZ)]
@[reducible] def v1 (r : (List ab) × Int × (List aB) × (List aq) × (List ah) × Int × Int × Int × (List UInt8) × (List UInt8) × Int × Int × Int × Int × Int × Int × (List UInt8) × Int × (List (List UInt8)) × (List az)) : List MV := [.list (r.1.map bE), .i .i64 r.2.1, .list (r.2.2.1.map bq), .list (r.2.2.2.1.map bA), .list (r.2.2.2.2.1.map aU), .i .i64 r.2.2.2.2.2.1, .i .i64 r.2.2.2.2.2.2.1, .i .i64 r.2.2.2.2.2.2.2.1, .s r.2.2.2.2.2.2.2.2.1, .s r.2.2.2.2.2.2.2.2.2.1, .i .i64 r.2.2.2.2.2.2.2.2.2.2.1, .i .i64 r.2.2.2.2.2.2.2.2.2.2.2.1, .i .i64 r.2.2.2.2.2.2.2.2.2.2.2.2.1, .i .i64 r.2.2.2.2.2.2.2.2.2.2.2.2.2.1, .i .i64 r.2.2.2.2.2.2.2.2.2.2.2.2.2.2.1, .i .i64 r.2.2.2.2.2.2.2.2.2.2.2.2.2.2.2.1, .s r.2.2.2.2.2.2.2.2.2.2.2.2.2.2.2.2.1, .i .i64 r.2.2.2.2.2.2.2.2.2.2.2.2.2.2.2.2.2.1, .list (r.2.2.2.2.2.2.2.2.2.2.2.2.2.2.2.2.2.2.1.map MV.s), .list (r.2.2.2.2.2.2.2.2.2.2.2.2.2.2.2.2.2.2.2.map eZ)]
@[reducible] def v2 (r : (List aW) × Int × (List aw) × (List aR) × (List ay) × Int × Int × Int × (List UInt8) × Int × (List (List UInt8)) × (List bh)) : List MV := [.list (r.1.map cM), .i .i64 r.2.1, .list (r.2.2.1.map bQ), .list (r.2.2.2.1.map ec), .list (r.2.2.2.2.1.map bX), .i .i64 r.2.2.2.2.2.1, .i .i64 r.2.2.2.2.2.2.1, .i .i64 r.2.2.2.2.2.2.2.1, .s r.2.2.2.2.2.2.2.2.1, .i .i64 r.2.2.2.2.2.2.2.2.2.1, .list (r.2.2.2.2.2.2.2.2.2.2.1.map MV.s), .list (r.2.2.2.2.2.2.2.2.2.2.2.map e8)]
@[reducible] def v3 (r : (List aW) × Int × (List aw) × (List aR) × (List ay) × Int × Int × Int × (List UInt8) × Int × (List (List UInt8)) × Int) : List MV := [.list (r.1.map cM), .i .i64 r.2.1, .list (r.2.2.1.map bQ), .list (r.2.2.2.1.map ec), .list (r.2.2.2.2.1.map bX), .i .i64 r.2.2.2.2.2.1, .i .i64 r.2.2.2.2.2.2.1, .i .i64 r.2.2.2.2.2.2.2.1, .s r.2.2.2.2.2.2.2.2.1, .i .i64 r.2.2.2.2.2.2.2.2.2.1, .list (r.2.2.2.2.2.2.2.2.2.2.1.map MV.s), .i .i64 r.2.2.2.2.2.2.2.2.2.2.2]
@[reducible] def v4 (r : (List aW) × Int × (List aw) × (List aR) × (List ay) × Int × Int × Int × (List UInt8) × Int × (List (List UInt8))) : List MV := [.list (r.1.map cM), .i .i64 r.2.1, .list (r.2.2.1.map bQ), .list (r.2.2.2.1.map ec), .list (r.2.2.2.2.1.map bX), .i .i64 r.2.2.2.2.2.1, .i .i64 r.2.2.2.2.2.2.1, .i .i64 r.2.2.2.2.2.2.2.1, .s r.2.2.2.2.2.2.2.2.1, .i .i64 r.2.2.2.2.2.2.2.2.2.1, .list (r.2.2.2.2.2.2.2.2.2.2.map MV.s)]
@[reducible] def v5 (r : Int × Int × Int × (List UInt8) × Int × (List (List UInt8)) × Int × Int × Int × (List UInt8) × Int × (List (List UInt8))) : List MV := [.i .i64 r.1, .i .i64 r.2.1, .i .i64 r.2.2.1, .s r.2.2.2.1, .i .i64 r.2.2.2.2.1, .list (r.2.2.2.2.2.1.map MV.s), .i .i64 r.2.2.2.2.2.2.1, .i .i64 r.2.2.2.2.2.2.2.1, .i .i64 r.2.2.2.2.2.2.2.2.1, .s r.2.2.2.2.2.2.2.2.2.1, .i .i64 r.2.2.2.2.2.2.2.2.2.2.1, .list (r.2.2.2.2.2.2.2.2.2.2.2.map MV.s)]
@[reducible] def v6 (r : Int × Int × Int × Int × Int × Int × Int × Int × Int) : List MV := [.i .u32 r.1, .i .u32 r.2.1, .i .u32 r.2.2.1, .i .u32 r.2.2.2.1, .i .u32 r.2.2.2.2.1, .i .u32 r.2.2.2.2.2.1, .i .u32 r.2.2.2.2.2.2.1, .i .u32 r.2.2.2.2.2.2.2.1, .i .i64 r.2.2.2.2.2.2.2.2]
@[reducible] def v7 (r : Int × Int × Int × Int × Int × Int × Int × Int) : List MV := [.i .u32 r.1, .i .u32 r.2.1, .i .u32 r.2.2.1, .i .u32 r.2.2.2.1, .i .u32 r.2.2.2.2.1, .i .u32 r.2.2.2.2.2.1, .i .u32 r.2.2.2.2.2.2.1, .i .u32 r.2.2.2.2.2.2.2]
@[reducible] def v8 (r : Int × Int × Int × (List UInt8) × Int × (List (List UInt8)) × Bool) : List MV := [.i .i64 r.1, .i .i64 r.2.1, .i .i64 r.2.2.1, .s r.2.2.2.1, .i .i64 r.2.2.2.2.1, .list (r.2.2.2.2.2.1.map MV.s), .b r.2.2.2.2.2.2]
@[reducible] def v9 (r : (List Int) × (List Int) × Int) : List MV := [.h .u32 6 r.1, .list (r.2.1.map (MV.i .u8)), .i .i64 r.2.2]
attribute [local irreducible] oT idx both kF ku uV Oc wb CM vH zH zJ zK om qV jn cU kW AZ lW zM kX jq j0 cH lX Ej jA jB mJ o6 pv mK j6 yi q8 iN fL A5 jL mL j7 A6 jr cI kY wV pw Ek eO gn dv mM yl nN vg lL j8 nO j9 El nQ lM Bb vh ka Bd Be lY Bf lZ ym kZ yn Bh pz lc Bi ma iQ dW Em lf wZ tj rf xa yo xe sN o8 nR Bk vo uf xg Bm pA Eo Bn Ep Bo vI HQ Us HR Di HS Ms Br Er Et HT Bs O4 Eu xh Bt HU Dl xi Dm yp HV Ew Ex HW Ey HX Mt Mu Dq yq Ds Dt Ez Du Mx HZ Bu H0 yr H2 vq H3 Bw zQ Dw mb fc eg o9 EA ug yt Dz mN eL DA oq vJ zR H5 zS cJ gd xj BA nS BB My fe rk xk EB Mz H6 MA MB H7 H8 vr H9 xl xm nT zT rl MC rn rq
instance:Ec aA:=⟨eu⟩
instance:Ec aB:=⟨bq⟩
instance:Ec aa:=⟨aQ⟩
instance:Ec ah:=⟨aU⟩
instance:Ec aW:=⟨cM⟩
instance:Ec bm:=⟨db⟩
instance:Ec cg:=⟨kf⟩
instance:Ec aw:=⟨bQ⟩
instance:Ec bh:=⟨e8⟩
instance:Ec cA:=⟨nz⟩
instance:Ec dS:=⟨tC⟩
instance:Ec aR:=⟨ec⟩
instance:Ec aJ:=⟨ct⟩
instance:Ec ay:=⟨bX⟩
instance:Ec bu:=⟨dc⟩
instance:Ec aj:=⟨c8⟩
instance:Ec ab:=⟨bE⟩
instance:Ec ax:=⟨cL⟩
instance:Ec az:=⟨eZ⟩
instance:Ec aY:=⟨dm⟩
instance:Ec bZ:=⟨oW⟩
instance:Ec aq:=⟨bA⟩
instance:En aW:=⟨Jo⟩
instance:En bm:=⟨F3⟩
instance:En af:=⟨bG⟩
instance:En bM:=⟨oX⟩
instance:En kv:=⟨eJ⟩
def aep {A B:Type}{g:B->A}{T:Option B}{k0:IntKind}{x0:Int}{x1:Bool}{K:Int->Bool->Option A}(h:Sm g (K x0 x1) T):Sm g (oIB k0 [.i k0 x0,.b x1] K) T:=ar (aH (ar (fO (bo h))))
def aai {A B:Type}{g:B->A}{T:Option B}{k0 k1:IntKind}{x0:Int}{x1:Int}{K:Int->Int->Option A}(h:Sm g (K x0 x1) T):Sm g (oII k0 k1 [.i k0 x0,.i k1 x1] K) T:=ar (aH (ar (aH (bo h))))
def PF {A B:Type}{g:B->A}{T:Option B}{k0 k1 k2:IntKind}{x0:Int}{x1:Int}{x2:Int}{K:Int->Int->Int->Option A}(h:Sm g (K x0 x1 x2) T):Sm g (aea k0 k1 k2 [.i k0 x0,.i k1 x1,.i k2 x2] K) T:=ar (aH (ar (aH (ar (aH (bo h))))))
def gK {A B:Type}{g:B->A}{T:Option B}{k0 k1 k2 k4:IntKind}{x0:Int}{x1:Int}{x2:Int}{x3:List UInt8}{x4:Int}{x5:List MV}{K:Int->Int->Int->List UInt8->Int->List MV->Option A}(h:Sm g (K x0 x1 x2 x3 x4 x5) T):Sm g (Mo k0 k1 k2 k4 [.i k0 x0,.i k1 x1,.i k2 x2,.s x3,.i k4 x4,.list x5] K) T:=ar (aH (ar (aH (ar (aH (ar (nw (ar (aH (ar (bF (bo h))))))))))))
def sP {A B:Type}{g:B->A}{T:Option B}{k0 k1 k2 k5 k6 k7:IntKind}{x0:Int}{x1:Int}{x2:Int}{x3:List UInt8}{x4:List UInt8}{x5:Int}{x6:Int}{x7:Int}{K:Int->Int->Int->List UInt8->List UInt8->Int->Int->Int->Option A}(h:Sm g (K x0 x1 x2 x3 x4 x5 x6 x7) T):Sm g (Sh k0 k1 k2 k5 k6 k7 [.i k0 x0,.i k1 x1,.i k2 x2,.s x3,.s x4,.i k5 x5,.i k6 x6,.i k7 x7] K) T:=ar (aH (ar (aH (ar (aH (ar (nw (ar (nw (ar (aH (ar (aH (ar (aH (bo h))))))))))))))))
def awt {A B:Type}{g:B->A}{T:Option B}{k0:IntKind}{x0:Int}{x1:List MV}{K:Int->List MV->Option A}(h:Sm g (K x0 x1) T):Sm g (oIL k0 [.i k0 x0,.list x1] K) T:=ar (aH (ar (bF (bo h))))
def ao6 {A B:Type}{g:B->A}{T:Option B}{k0 k2:IntKind}{x0:Int}{x1:List MV}{x2:Int}{K:Int->List MV->Int->Option A}(h:Sm g (K x0 x1 x2) T):Sm g (arj k0 k2 [.i k0 x0,.list x1,.i k2 x2] K) T:=ar (aH (ar (bF (ar (aH (bo h))))))
def DD {A B:Type}{g:B->A}{T:Option B}{k1:IntKind}{x0:List MV}{x1:Int}{K:List MV->Int->Option A}(h:Sm g (K x0 x1) T):Sm g (oLI k1 [.list x0,.i k1 x1] K) T:=ar (bF (ar (aH (bo h))))
def rr {A B:Type}{g:B->A}{T:Option B}{k1:IntKind}{x0:List MV}{x1:Int}{x2:List MV}{x3:List MV}{x4:List MV}{K:List MV->Int->List MV->List MV->List MV->Option A}(h:Sm g (K x0 x1 x2 x3 x4) T):Sm g (ail k1 [.list x0,.i k1 x1,.list x2,.list x3,.list x4] K) T:=ar (bF (ar (aH (ar (bF (ar (bF (ar (bF (bo h))))))))))
def ru {A B:Type}{g:B->A}{T:Option B}{k1 k5 k6 k7 k9 k11:IntKind}{x0:List MV}{x1:Int}{x2:List MV}{x3:List MV}{x4:List MV}{x5:Int}{x6:Int}{x7:Int}{x8:List UInt8}{x9:Int}{BO:List MV}{IW:Int}{K:List MV->Int->List MV->List MV->List MV->Int->Int->Int->List UInt8->Int->List MV->Int->Option A}(h:Sm g (K x0 x1 x2 x3 x4 x5 x6 x7 x8 x9 BO IW) T):Sm g (o4 k1 k5 k6 k7 k9 k11 [.list x0,.i k1 x1,.list x2,.list x3,.list x4,.i k5 x5,.i k6 x6,.i k7 x7,.s x8,.i k9 x9,.list BO,.i k11 IW] K) T:=ar (bF (ar (aH (ar (bF (ar (bF (ar (bF (ar (aH (ar (aH (ar (aH (ar (nw (ar (aH (ar (bF (ar (aH (bo h))))))))))))))))))))))))
def rv {A B:Type}{g:B->A}{T:Option B}{k1 k5 k6 k7 k10 k11 k12 k13 k14 k15 k17:IntKind}{x0:List MV}{x1:Int}{x2:List MV}{x3:List MV}{x4:List MV}{x5:Int}{x6:Int}{x7:Int}{x8:List UInt8}{x9:List UInt8}{BO:Int}{IW:Int}{Mp:Int}{EV:Int}{Xu:Int}{Xv:Int}{x16:List UInt8}{Z8:Int}{x18:List MV}{K5:List MV}{K:List MV->Int->List MV->List MV->List MV->Int->Int->Int->List UInt8->List UInt8->Int->Int->Int->Int->Int->Int->List UInt8->Int->List MV->List MV->Option A}(h:Sm g (K x0 x1 x2 x3 x4 x5 x6 x7 x8 x9 BO IW Mp EV Xu Xv x16 Z8 x18 K5) T):Sm g (mw k1 k5 k6 k7 k10 k11 k12 k13 k14 k15 k17 [.list x0,.i k1 x1,.list x2,.list x3,.list x4,.i k5 x5,.i k6 x6,.i k7 x7,.s x8,.s x9,.i k10 BO,.i k11 IW,.i k12 Mp,.i k13 EV,.i k14 Xu,.i k15 Xv,.s x16,.i k17 Z8,.list x18,.list K5] K) T:=ar (bF (ar (aH (ar (bF (ar (bF (ar (bF (ar (aH (ar (aH (ar (aH (ar (nw (ar (nw (ar (aH (ar (aH (ar (aH (ar (aH (ar (aH (ar (aH (ar (nw (ar (aH (ar (bF (ar (bF (bo h))))))))))))))))))))))))))))))))))))))))
def awu {A B:Type}{g:B->A}{T:Option B}{x0:List MV}{x1:List MV}{K:List MV->List MV->Option A}(h:Sm g (K x0 x1) T):Sm g (oLL [.list x0,.list x1] K) T:=ar (bF (ar (bF (bo h))))
def ao7 {A B:Type}{g:B->A}{T:Option B}{k1:IntKind}{x0:List UInt8}{x1:Int}{x2:Bool}{K:List UInt8->Int->Bool->Option A}(h:Sm g (K x0 x1 x2) T):Sm g (avx k1 [.s x0,.i k1 x1,.b x2] K) T:=ar (nw (ar (aH (ar (fO (bo h))))))
def J7 {A B:Type}{g:B->A}{T:Option B}{k2 k3:IntKind}{x0:List UInt8}{x1:List UInt8}{x2:Int}{x3:Int}{K:List UInt8->List UInt8->Int->Int->Option A}(h:Sm g (K x0 x1 x2 x3) T):Sm g (aoW k2 k3 [.s x0,.s x1,.i k2 x2,.i k3 x3] K) T:=ar (nw (ar (nw (ar (aH (ar (aH (bo h))))))))
instance Su (lA:List aa):Es (zk lA) (vH [.list (lA.map aQ)]) MV.b:=⟨by unfold zk;delta vH;exact sm⟩
instance aeq:Es (Jp) (zH []) cL:=⟨by unfold Jp;delta zH;exact sm⟩
instance aer:Es (Jq) (zJ []) eu:=⟨by unfold Jq;delta zJ;exact sm⟩
def aes:Sm c8 (zK) (D9):=by unfold zK D9;refine ap (aeq).h λrA=> ?_;refine da (ar (bF (bo ?_)));refine ap (aer).h λaO=> ?_;refine da (awt ?_);exact ae (rfl)
instance Ic (x:Int):Es (qy x) (om [.i .i64 x]) MV.b:=⟨by unfold qy;delta om;exact sm⟩
def DE (x:Int)(y:Int):Sm (MV.i .i64) (qV (.i .i64 x) (.i .i64 y)) (kH x y):=by
 unfold qV kH;refine aH (aH ?_);refine ap (Ic x).h λrA=> ?_;refine fO ?_;refine ap (Ic y).h λaO=> ?_;refine fO ?_;refine cu ?_ ?_
 .refine cu ?_ ?_
  .exact ae (rfl)
  .exact ae (rfl)
 .refine cu ?_ ?_
  .exact ae (rfl)
  .refine bW ?_ ?_
   .exact ae (rfl)
   .refine bW ?_ ?_
    .exact ae (rfl)
    .exact ae (rfl)
instance GB (x:ah) (eT:Int):Es (dg x eT) (jn [aU x,.i .i64 eT]) (MV.i .i64):=⟨by
 unfold dg;delta jn;conv=>arg 2;whnf
 refine kr (DE x.Client eT) λrA=> ?_;exact sm⟩
def oQ (x:List ah)(target:Int)(cmp:ah->Int->Option Int){Xp:Nat}{I9:List MV}(Lb:gv Xp=false)(fR: ∀(u0:ah)(u1:Int),Sm (MV.i .i64) (cG Xp ([aU u0,.i .i64 u1]++I9)) (cmp u0 u1)):Sm (λr=> .cw [.i .i64 r.1,.b r.2]) (cU (.list (x.map aU)) (.i .i64 target) (.func Xp I9)) (cT x target cmp):=by
 unfold cU cT;refine bF (aH (FX (bJ (n:=x.length) (by simp only [bD,sh,AI]) ?_)));refine ap (dy (λr=>[.i .i64 r.1,.i .i64 r.2]) (λr=>(2,[.i .i64 r])) (rfl) λst=> ?_) λw=> ?_
 .unfold gx;refine aai ?_;refine bW ?_ ?_
  .refine aL ?_;refine dJ (f:=aU) (rfl) λy=> ?_;refine da (gK (yI (bP (by rw [Lb];rfl) ?_)));refine ap (fR y target) λrA=> ?_;refine aH ?_;refine ap (f:=(λr=>(0,[.i .i64 r.1,.i .i64 r.2]))) ?_ λw1=> ?_
   .refine bW ?_ ?_
    .exact ae (rfl)
    .exact ae (rfl)
   .refine bP rfl (aai ?_);exact ae (rfl)
  .exact ae (rfl)
 .refine bP rfl (ar (aH (bo ?_)));refine ap (f:=λr=>[.i .i64 r.1,.b r.2]) ?_ λw2=> ?_
  .refine bW ?_ ?_
   .refine dJ (f:=aU) (rfl) λy1=> ?_;refine da (gK (yI (bP (by rw [Lb];rfl) ?_)));refine ap (fR y1 target) λaO=> ?_;refine aH ?_;exact ae (rfl)
   .exact ae (rfl)
  .refine aep ?_;exact ae (rfl)
instance J8 (rA:aj) (eT:Int):Es (fY rA eT) (kW [c8 rA,.i .i64 eT]) (λr=> .cw [.i .i64 r.1,.b r.2]):=⟨by
 unfold fY;delta kW;conv=>arg 2;whnf
 refine kr (oQ rA.Seen eT dg (Xp:=90) (I9:=[]) rfl (λu2 u3=>Sm.at (iu _ _) (GB u2 u3).h)) λaO=> ?_;exact sm⟩
instance PG (rA:aj) (eT:Int):Es (sr rA eT) (AZ [c8 rA,.i .i64 eT]) (λr=> .cw [aU r.1,.b r.2]):=⟨by unfold sr;delta AZ;exact sm⟩
instance LU (o:aa):Es (bw o) (lW [aQ o]) aQ:=⟨by unfold bw;delta lW;exact sm⟩
def J9 (o:aa):Sm MV.b (zM (aQ o)) (dK o):=by
 unfold zM dK;refine da (sP ?_);refine ap (f:=λr=>[.b r]) ?_ λw=> ?_
 .refine bW ?_ ?_
  .refine bW ?_ ?_
   .refine bW ?_ ?_
    .exact ae (rfl)
    .exact ae (rfl)
   .exact ae (rfl)
  .exact ae (rfl)
 .refine ar (fO (bo ?_));refine ap (f:=λr=>[.b r]) ?_ λw1=> ?_
  .refine cu ?_ ?_
   .refine bW ?_ ?_
    .refine bW ?_ ?_
     .refine bW ?_ ?_
      .refine bW ?_ ?_
       .refine ap (LU o).h λrA=> ?_;refine da (sP ?_);exact ae (rfl)
       .exact ae (rfl)
      .exact ae (rfl)
     .exact ae (rfl)
    .exact ae (rfl)
   .exact ae (rfl)
  .refine ar (fO (bo ?_));exact ae (rfl)
instance Ka (rA:aj) (o:aa):Es (kI rA o) (kX [c8 rA,aQ o]) (λr=> .cw [aU r.1,.b r.2]):=⟨by
 unfold kI;delta kX;conv=>arg 2;whnf
 refine oO (PG rA o.Client) λaO=> ?_;conv=>arg 2;whnf
 refine kr (J9 o) λbK=> ?_;conv=>arg 2;whnf
 refine ap (f:=(ait (λr=>(0,(v5 r))) (λr=>(1,(v8 r))))) ?_ λw=> ?_
 .conv=>arg 2;whnf
  refine gY ?_ ?_
  .exact sm
  .conv=>arg 2;whnf
   refine ap (f:=λr=>[.b r]) ?_ λw1=> ?_
   .exact sm
   .conv=>arg 2;whnf
    refine gY ?_ ?_
    .exact sm
    .conv=>arg 2;whnf
     refine ap (f:=λr=>[.b r]) ?_ λw2=> ?_
     .exact sm
     .conv=>arg 2;whnf
      refine ap (f:=(ait (λr=>(0,(v5 r))) (λr=>(1,(v8 r))))) ?_ λw3=> ?_
      .exact sm
      .rcases w3 with p2|p3
       .exact sm
       .exact sm
 .rcases w with p4|p5
  .exact sm
  .exact sm⟩
instance GC (w:af):Es (pH w) (jq [.cell (.func 0 (bG w))]) (λr=> .eH ((λ_=> .cw []) r.1) (bG r.2)):=⟨by unfold pH;delta jq;exact sm⟩
instance Ig (x:aB) (id:Int):Es (du x id) (j0 [bq x,.i .i64 id]) (MV.i .i64):=⟨by
 unfold du;delta j0;conv=>arg 2;whnf
 refine kr (DE x.Id id) λrA=> ?_;exact sm⟩
def nU (x:List aB)(target:Int)(cmp:aB->Int->Option Int){Xp:Nat}{I9:List MV}(Lb:gv Xp=false)(fg: ∀(u0:aB)(u1:Int),Sm (MV.i .i64) (cq Xp ([bq u0,.i .i64 u1]++I9)) (cmp u0 u1)):Sm (λr=> .cw [.i .i64 r.1,.b r.2]) (cH (.list (x.map bq)) (.i .i64 target) (.func Xp I9)) (cE x target cmp):=by
 unfold cH cE;refine bF (aH (FX (bJ (n:=x.length) (by simp only [bD,sh,AI]) ?_)));refine ap (dy (λr=>[.i .i64 r.1,.i .i64 r.2]) (λr=>(2,[.i .i64 r])) (rfl) λst=> ?_) λw=> ?_
 .unfold fP;refine aai ?_;refine bW ?_ ?_
  .refine aL ?_;refine dJ (f:=bq) (rfl) λy=> ?_;refine da (PF (yI (bP (by rw [Lb];rfl) ?_)));refine ap (fg y target) λrA=> ?_;refine aH ?_;refine ap (f:=(λr=>(0,[.i .i64 r.1,.i .i64 r.2]))) ?_ λw1=> ?_
   .refine bW ?_ ?_
    .exact ae (rfl)
    .exact ae (rfl)
   .refine bP rfl (aai ?_);exact ae (rfl)
  .exact ae (rfl)
 .refine bP rfl (ar (aH (bo ?_)));refine ap (f:=λr=>[.i .i64 r.1,.b r.2]) ?_ λw2=> ?_
  .refine bW ?_ ?_
   .refine dJ (f:=bq) (rfl) λy1=> ?_;refine da (PF (yI (bP (by rw [Lb];rfl) ?_)));refine ap (fg y1 target) λaO=> ?_;refine aH ?_;exact ae (rfl)
   .exact ae (rfl)
  .refine aep ?_;exact ae (rfl)
instance uM (b:aA) (id:Int):Es (ez b id) (lX [eu b,.i .i64 id]) (λr=> .cw [.i .i64 r.1,.b r.2]):=⟨by
 unfold ez;delta lX;conv=>arg 2;whnf
 refine kr (nU b.L id du (Xp:=181) (I9:=[]) rfl (λu2 u3=>Sm.at (gU _ _) (Ig u2 u3).h)) λrA=> ?_;exact sm⟩
instance as3 (b:aA) (id:Int):Es (zl b id) (Ej [eu b,.i .i64 id]) MV.b:=⟨by unfold zl;delta Ej;exact sm⟩
instance VT (sA:List UInt8) (gk:List UInt8):Es (jx sA gk) (jA [.s sA,.s gk]) MV.b:=⟨by unfold jx;delta jA;exact sm⟩
instance VU (sA:List UInt8) (gk:List UInt8):Es (jy sA gk) (jB [.s sA,.s gk]) (λr=> .cw [.s r.1,.b r.2]):=⟨by unfold jy;delta jB;exact sm⟩
instance Ih (sA:List UInt8) (gk:List UInt8):Es (jQ sA gk) (mJ [.s sA,.s gk]) (λr=> .cw [.s r.1,.b r.2]):=⟨by unfold jQ;delta mJ;exact sm⟩
instance Rg (c:Int):Es (iS c) (o6 [.i .i32 c]) MV.b:=⟨by
 unfold iS;delta o6;conv=>arg 2;whnf
 refine kr (adW ([97,98,99,100,101,102,103,104,105,106,107,108,109,110,111,112,113,114,115,116,117,118,119,120,121,122,48,49,50,51,52,53,54,55,56,57,45,95]:List UInt8) c) λrA=> ?_;exact sm⟩
def LV (sA:List UInt8)(f:Int->Option Bool)(K3:Bool){yV:Nat}{qX:List MV}(YY:gv yV=false)(kb: ∀(u0:Int),Sm MV.b (j5 yV ([.i .i32 u0]++qX)) (f u0)):Sm (MV.i .i64) (pv (.s sA) (.func yV qX) (.b K3)) (po sA f K3):=by
 unfold pv po;refine nw (FX (fO ?_));refine ap (dy (λr=>[.list r]) (ait (λr=>(2,[])) (λr=>(1,[.i .i64 r]))) (rfl) λst=> ?_) λw=> ?_
 .unfold jR;refine ar (bF (bo ?_));refine cu ?_ ?_
  .refine yI (bP (by rw [YY];rfl) ?_);refine ap (kb (FD st)) λrA=> ?_;refine fO ?_;refine bW ?_ ?_
   .exact ae (rfl)
   .exact ae (rfl)
  .exact ae (rfl)
 .rcases w with p1|p2
  .refine TW rfl (bo ?_);exact ae (rfl)
  .refine TX rfl (bP rfl (ar (aH (bo ?_))));exact ae (rfl)
def Ii (sA:List UInt8)(f:Int->Option Bool){yV:Nat}{qX:List MV}(YY:gv yV=false)(kb: ∀(u0:Int),Sm MV.b (j5 yV ([.i .i32 u0]++qX)) (f u0)):Sm (MV.i .i64) (mK [.s sA,.func yV qX]) (mH sA f):=by
 unfold mH;delta mK;conv=>arg 2;whnf
 refine kr (LV sA f true YY kb) λrA=> ?_;exact sm
def DF (sA:List UInt8)(f:Int->Option Bool){yV:Nat}{qX:List MV}(YY:gv yV=false)(kb: ∀(u0:Int),Sm MV.b (j5 yV ([.i .i32 u0]++qX)) (f u0)):Sm MV.b (j6 [.s sA,.func yV qX]) (gy sA f):=by
 unfold gy;delta j6;conv=>arg 2;whnf
 refine kr (Ii sA f YY kb) λrA=> ?_;exact sm
instance ao8 (sA:List UInt8):Es (tD sA) (yi [.s sA]) MV.b:=⟨by
 unfold tD;delta yi;conv=>arg 2;whnf
 refine ap (f:=λr=>[.b r]) ?_ λw=> ?_
 .conv=>arg 2;whnf
  refine gY ?_ ?_
  .conv=>arg 2;whnf
   first|refine cf ?_|refine gj ?_ ?_
   .conv=>arg 2;whnf
    refine kr (ara sA ([97,98,99,100,101,102,103,104,105,106,107,108,109,110,111,112,113,114,115,116,117,118,119,120,121,122,48,49,50,51,52,53,54,55,56,57,45,95]:List UInt8)) λrA=> ?_;conv=>arg 2;whnf
    first|refine cf ?_|refine gj ?_ ?_
    .conv=>arg 2;whnf
     refine kr (DF sA iS (yV:=206) (qX:=[]) rfl (λu1=>Sm.at (uB _) (Rg u1).h)) λaO=> ?_;exact sm
    .exact sm
   .exact sm
  .exact sm
 .exact sm⟩
instance U8 (sA:List UInt8):Es (n9 sA) (q8 [.s sA]) MV.b:=⟨by unfold n9;delta q8;exact sm⟩
def BE (sA:List (List UInt8))(f:(List UInt8)->Option Bool){yV:Nat}{qX:List MV}(YY:gv yV=false)(kj: ∀(u0:List UInt8),Sm MV.b (gm yV ([.s u0]++qX)) (f u0)):Sm (MV.i .i64) (iN (.list (sA.map MV.s)) (.func yV qX)) (iJ sA f):=by
 unfold iN iJ;refine bF (FX (bJ (n:=sA.length) (by simp only [bD,sh,AI]) ?_));refine ap (dy (λr=>[.i .i64 r]) (ait (λr=>(2,[])) (λr=>(1,[.i .i64 r]))) (rfl) λst=> ?_) λw=> ?_
 .unfold ej;refine ar (aH (bo ?_));refine bW ?_ ?_
  .refine dJ (f:=MV.s) (rfl) λy=> ?_;refine nw (yI (bP (by rw [YY];rfl) ?_));refine ap (kj y) λrA=> ?_;refine fO ?_;refine cu ?_ ?_
   .exact ae (rfl)
   .exact ae (rfl)
  .exact ae (rfl)
 .rcases w with p1|p2
  .refine TW rfl (bo ?_);exact ae (rfl)
  .refine TX rfl (bP rfl (ar (aH (bo ?_))));exact ae (rfl)
def xF (sA:List (List UInt8))(f:(List UInt8)->Option Bool){yV:Nat}{qX:List MV}(YY:gv yV=false)(kj: ∀(u0:List UInt8),Sm MV.b (gm yV ([.s u0]++qX)) (f u0)):Sm MV.b (fL [.list (sA.map MV.s),.func yV qX]) (dU sA f):=by
 unfold dU;delta fL;conv=>arg 2;whnf
 refine kr (BE sA f YY kj) λrA=> ?_;exact sm
instance arW (p:List UInt8):Es (je p) (A5 [.s p]) (λr=> .cw [.list (r.1.map MV.s),.b r.2]):=⟨by
 unfold je;delta A5;conv=>arg 2;whnf
 refine oO (Ih p ([47]:List UInt8)) λrA=> ?_;conv=>arg 2;whnf
 refine ap (f:=λr=>[.b r]) ?_ λw=> ?_
 .exact sm
 .conv=>arg 2;whnf
  refine gY ?_ ?_
  .exact sm
  .conv=>arg 2;whnf
   first|refine cf ?_|refine gj ?_ ?_
   .exact sm
   .conv=>arg 2;whnf
    refine kr (amg rA.1 ([47]:List UInt8)) λaO=> ?_;conv=>arg 2;whnf
    refine ap (f:=λr=>[.list (r.1.map MV.s),.b r.2.1,.list (r.2.2.map MV.s)]) ?_ λw1=> ?_
    .conv=>arg 2;whnf
     first|refine cf ?_|refine gj ?_ ?_
     .conv=>arg 2;whnf
      refine kr (xF aO n9 (yV:=194) (qX:=[]) rfl (λu1=>Sm.at (pN _) (U8 u1).h)) λbK=> ?_;exact sm
     .exact sm
    .exact sm⟩
instance BT (x:List UInt8):Es (lS x) (jL [.s x]) MV.b:=⟨by unfold lS;delta jL;exact sm⟩
def Ij (x:List UInt8)(y:List UInt8):Sm (MV.i .i64) (mL (.s x) (.s y)) (jS x y):=by
 unfold mL jS;refine nw (nw ?_);refine ap (BT x).h λrA=> ?_;refine fO ?_;refine ap (BT y).h λaO=> ?_;refine fO ?_;refine cu ?_ ?_
 .refine cu ?_ ?_
  .exact ae (rfl)
  .exact ae (rfl)
 .refine cu ?_ ?_
  .exact ae (rfl)
  .refine cu ?_ ?_
   .exact ae (rfl)
   .refine cu ?_ ?_
    .exact ae (rfl)
    .exact ae (rfl)
instance X8 (s1:List (List UInt8)) (s2:List (List UInt8)):Es (gz s1 s2) (j7 [.list (s1.map MV.s),.list (s2.map MV.s)]) (MV.i .i64):=⟨by
 unfold gz;delta j7;conv=>arg 2;whnf
 refine ap (dq (λr=>[.i .i64 r]) (ait (λr=>(2,[])) (λr=>(1,[.i .i64 r]))) λst=> ?_) λw=> ?_
 .unfold e9;conv=>arg 2;whnf
  first|refine cf ?_|refine gj ?_ ?_
  .conv=>arg 2;whnf
   refine lR (f:=MV.s) λy=> ?_;conv=>arg 2;whnf
   first|refine cf ?_|refine gj ?_ ?_
   .exact sm
   .conv=>arg 2;whnf
    refine lR (f:=MV.s) λy1=> ?_;conv=>arg 2;whnf
    refine kr (Ij y y1) λrA=> ?_;exact sm
  .exact sm
 .rcases w with p1|p2
  .exact sm
  .exact sm⟩
instance arX (p:List UInt8) (q:List UInt8):Es (wc p q) (A6 [.s p,.s q]) MV.b:=⟨by unfold wc;delta A6;exact sm⟩
instance GD (n:ab) (p:List UInt8):Es (ck n p) (jr [bE n,.s p]) (MV.i .i64):=⟨by unfold ck;delta jr;exact sm⟩
def nV (x:List ab)(target:List UInt8)(cmp:ab->(List UInt8)->Option Int){Xp:Nat}{I9:List MV}(Lb:gv Xp=false)(fh: ∀(u0:ab)(u1:List UInt8),Sm (MV.i .i64) (cr Xp ([bE u0,.s u1]++I9)) (cmp u0 u1)):Sm (λr=> .cw [.i .i64 r.1,.b r.2]) (cI (.list (x.map bE)) (.s target) (.func Xp I9)) (dA x target cmp):=by
 unfold cI dA;refine bF (nw (FX (bJ (n:=x.length) (by simp only [bD,sh,AI]) ?_)));refine ap (dy (λr=>[.i .i64 r.1,.i .i64 r.2]) (λr=>(2,[.i .i64 r])) (rfl) λst=> ?_) λw=> ?_
 .unfold fQ;refine aai ?_;refine bW ?_ ?_
  .refine aL ?_;refine dJ (f:=bE) (rfl) λy=> ?_;refine da (J7 (yI (bP (by rw [Lb];rfl) ?_)));refine ap (fh y target) λrA=> ?_;refine aH ?_;refine ap (f:=(λr=>(0,[.i .i64 r.1,.i .i64 r.2]))) ?_ λw1=> ?_
   .refine bW ?_ ?_
    .exact ae (rfl)
    .exact ae (rfl)
   .refine bP rfl (aai ?_);exact ae (rfl)
  .exact ae (rfl)
 .refine bP rfl (ar (aH (bo ?_)));refine ap (f:=λr=>[.i .i64 r.1,.b r.2]) ?_ λw2=> ?_
  .refine bW ?_ ?_
   .refine dJ (f:=bE) (rfl) λy1=> ?_;refine da (J7 (yI (bP (by rw [Lb];rfl) ?_)));refine ap (fh y1 target) λaO=> ?_;refine aH ?_;exact ae (rfl)
   .exact ae (rfl)
  .refine aep ?_;exact ae (rfl)
instance Kb (sA:ax) (p:List UInt8):Es (fZ sA p) (kY [cL sA,.s p]) (λr=> .cw [.i .i64 r.1,.b r.2]):=⟨by
 unfold fZ;delta kY;conv=>arg 2;whnf
 refine kr (nV sA.L p ck (Xp:=183) (I9:=[]) rfl (λu2 u3=>Sm.at (gE _ _) (GD u2 u3).h)) λrA=> ?_;exact sm⟩
instance aaj (p:List UInt8):Es (lF p) (wV [.s p]) MV.b:=⟨by unfold lF;delta wV;exact sm⟩
instance LW (sA:ax) (p:List UInt8):Es (iq sA p) (pw [cL sA,.s p]) (λr=> .cw [.i .i64 r.1,.i .i64 r.2]):=⟨by unfold iq;delta pw;exact sm⟩
instance as4 (sA:ax) (p:List UInt8):Es (su sA p) (Ek [cL sA,.s p]) (λr=> .cw [bE r.1,.i .i64 r.2]):=⟨by unfold su;delta Ek;exact sm⟩
instance MD (sA:List UInt8) (c:Int):Es (eN sA c) (eO [.s sA,.i .u8 c]) (MV.i .i64):=⟨by unfold eN;delta eO;exact sm⟩
instance yQ (sep:List UInt8):Es (kg sep) (gn [.s sep]) (λr=> .cw [.i .u32 r.1,.i .u32 r.2]):=⟨by
 unfold kg;delta gn;conv=>arg 2;whnf
 refine ap (dq (λr=>[.i .u32 r.1,.i .i64 r.2]) (λr=>(2,[.i .u32 r])) λst=> ?_) λw=> ?_
 .exact sm
 .conv=>arg 2;whnf
  refine ap (dq (λr=>[.i .u32 r.1,.i .u32 r.2.1,.i .i64 r.2.2]) (λr=>(4,[.i .u32 r])) λaZ=> ?_) λw1=> ?_
  .unfold nA;conv=>arg 2;whnf
   first|refine cf ?_|refine gj ?_ ?_
   .conv=>arg 2;whnf
    refine ap (f:=(λr=>(0,[.i .u32 r]))) ?_ λw2=> ?_
    .exact sm
    .exact sm
   .exact sm
  .exact sm⟩
instance Ik (a:List UInt8) (a1:List UInt8):Es (fa a a1) (dv [.s a,.s a1]) (MV.i .i64):=⟨by
 unfold fa;delta dv;conv=>arg 2;whnf
 refine oO (yQ a1) λrA=> ?_;conv=>arg 2;whnf
 refine ap (dq (λr=>[.i .u32 r.1,.i .i64 r.2]) (λr=>(2,[.i .u32 r])) λst=> ?_) λw=> ?_
 .unfold jf;exact sm
 .conv=>arg 2;whnf
  refine ap (f:=λr=>[.b r]) ?_ λw1=> ?_
  .exact sm
  .conv=>arg 2;whnf
   refine gY ?_ ?_
   .exact sm
   .conv=>arg 2;whnf
    refine ap (dq (λr=>[.i .u32 r.1,.i .i64 r.2]) (ait (λr=>(4,[])) (λr=>(1,[.i .i64 r]))) λaZ=> ?_) λw2=> ?_
    .unfold jg;exact sm
    .rcases w2 with p2|p3
     .exact sm
     .exact sm⟩
instance acr (sA:List UInt8) (substr:List UInt8):Es (jT sA substr) (mM [.s sA,.s substr]) (MV.i .i64):=⟨by unfold jT;delta mM;exact sm⟩
instance ao9 (p:List UInt8):Es (pX p) (yl [.s p]) (λr=> .cw [.s r.1,.i .i64 r.2]):=⟨by unfold pX;delta yl;exact sm⟩
instance PH (c:List UInt8) (c1:Bool) (c2:ax) (c3:List UInt8) (c4:Int):Es (jh c c1 c2 c3 c4) (nN [.rp [.s c],.rp [.b c1],.rp [.list (c2.L.map bE)],.rp [.s c3],.rp [.i .i64 c4]]) (MV.i .i64):=⟨by unfold jh;delta nN;exact sm⟩
def U9 (sA:ax)(p:List UInt8)(value:List UInt8)(owner:Int):Sm (λr=> .cw [cL r.1,.i .i64 r.2]) (vg (cL sA) (.s p) (.s value) (.i .i64 owner)) (oa sA p value owner):=by
 unfold vg oa;refine da (ar (bF (bo (nw (nw (aH ?_))))));refine ap (Kb sA p).h λrA=> ?_;refine ox (aep ?_);refine ap (PH p rA.2 sA value owner).h λaO=> ?_;refine aH ?_;refine cu ?_ ?_
 .exact ae (rfl)
 .refine FY (uX rfl rfl) ?_;refine ap (uY (size:=4) (f:=bE) (λ_=>rfl) sA.L) λbK=> ?_;refine Fu ?_;refine ap (N7 (f:=bE) bK rA.1 ([(⟨p,value,0,owner⟩:ab)]:List ab)) λgQ=> ?_;refine Fu ?_;exact ae (rfl)
instance aak (w:af) (kind:Int):Es (dB w kind) (lL [.cell (.func 0 (bG w)),.i .i64 kind]) (λr=> .eH ((λ_=> .cw []) r.1) (bG r.2)):=⟨by unfold dB;delta lL;exact sm⟩
instance Il (w:af):Es (jU w) (j8 [.cell (.func 0 (bG w))]) (λr=> .eH ((λ_=> .cw []) r.1) (bG r.2)):=⟨by
 unfold jU;delta j8;conv=>arg 2;whnf
 refine ap (f:=λr=>[.b r]) ?_ λw1=> ?_
 .exact sm
 .conv=>arg 2;whnf
  refine gY ?_ ?_
  .exact sm
  .conv=>arg 2;whnf
   refine kr (U9 w.r.Shelf w.o.Path w.o.Value w.o.Session) λaO=> ?_;exact sm⟩
instance PI (w:af):Es (nB w) (nO [.cell (.func 0 (bG w))]) (λr=> .eH ((λ_=> .cw []) r.1) (bG r.2)):=⟨by unfold nB;delta nO;exact sm⟩
instance uh (sA:ax) (p:List UInt8) (version:Int):Es (eK sA p version) (j9 [cL sA,.s p,.i .i64 version]) (λr=> .cw [.i .i64 r.1,.i .i64 r.2]):=⟨by unfold eK;delta j9;exact sm⟩
instance as5 (sA:ax) (p:List UInt8) (value:List UInt8) (version:Int):Es (zm sA p value version) (El [cL sA,.s p,.s value,.i .i64 version]) (λr=> .cw [cL r.1,.i .i64 r.2]):=⟨by
 unfold zm;delta El;conv=>arg 2;whnf
 refine oO (uh sA p version) λrA=> ?_;conv=>arg 2;whnf
 refine gY ?_ ?_
 .exact sm
 .conv=>arg 2;whnf
  first|refine cf ?_|refine gj ?_ ?_
  .exact sm
  .conv=>arg 2;whnf
   refine lR (f:=bE) λy=> ?_;conv=>arg 2;whnf
   first|refine cf ?_|refine gj ?_ ?_
   .exact sm
   .conv=>arg 2;whnf
    refine kr (uY (size:=4) (f:=bE) (λ_=>rfl) sA.L) λaO=> ?_;exact sm⟩
instance PJ (w:af):Es (nC w) (nQ [.cell (.func 0 (bG w))]) (λr=> .eH ((λ_=> .cw []) r.1) (bG r.2)):=⟨by unfold nC;delta nQ;exact sm⟩
instance aal (s1:List (List UInt8)) (s2:List (List UInt8)):Es (ji s1 s2) (lM [.list (s1.map MV.s),.list (s2.map MV.s)]) MV.b:=⟨by unfold ji;delta lM;exact sm⟩
instance arY (p:List UInt8) (q:List UInt8):Es (pI p q) (Bb [.s p,.s q]) MV.b:=⟨by unfold pI;delta Bb;exact sm⟩
instance amX (sA:ax) (p:List UInt8) (version:Int):Es (qz sA p version) (vh [cL sA,.s p,.i .i64 version]) (λr=> .cw [cL r.1,.i .i64 r.2]):=⟨by
 unfold qz;delta vh;conv=>arg 2;whnf
 refine oO (uh sA p version) λrA=> ?_;conv=>arg 2;whnf
 first|refine cf ?_|refine gj ?_ ?_
 .exact sm
 .conv=>arg 2;whnf
  refine gY ?_ ?_
  .exact sm
  .conv=>arg 2;whnf
   refine ap (f:=λr=>[.b r]) ?_ λw=> ?_
   .exact sm
   .conv=>arg 2;whnf
    refine gY ?_ ?_
    .exact sm
    .conv=>arg 2;whnf
     refine kr (uY (size:=4) (f:=bE) (λ_=>rfl) sA.L) λbK=> ?_;conv=>arg 2;whnf
     refine kr (Xl (f:=bE) bK rA.1 (AT .i64 (rA.1+1))) λgQ=> ?_;exact sm⟩
instance Im (w:af):Es (jV w) (ka [.cell (.func 0 (bG w))]) (λr=> .eH ((λ_=> .cw []) r.1) (bG r.2)):=⟨by unfold jV;delta ka;exact sm⟩
instance aam (p:List UInt8):Es (sv p) (Bd [.s p]) (λr=> .cw [.list (r.1.map MV.s),.i .i64 r.2]):=⟨by unfold sv;delta Bd;exact sm⟩
instance arZ (a:ax) (a1:List UInt8):Es (wg a a1) (Be [cL a,.s a1]) (λr=> .cw [.list (r.1.map MV.s),.i .i64 r.2]):=⟨by
 unfold wg;delta Be;conv=>arg 2;whnf
 refine oO (LW a a1) λrA=> ?_;conv=>arg 2;whnf
 refine gY ?_ ?_
 .exact sm
 .conv=>arg 2;whnf
  refine oO (aam a1) λaO=> ?_;conv=>arg 2;whnf
  refine bP (et (rfl:_=afE bE a.L) λ_=>rfl) ?_;exact sm⟩
instance LX (w:af):Es (lT w) (lY [.cell (.func 0 (bG w))]) (λr=> .eH ((λ_=> .cw []) r.1) (bG r.2)):=⟨by unfold lT;delta lY;exact sm⟩
def aan (b:aA)(id:Int)(span:Int):Sm (λr=> .cw [eu r.1,.i .i64 r.2]) (Bf (eu b) (.i .i64 id) (.i .i64 span)) (wh b id span):=by
 unfold Bf wh;refine da (awt (aH (aH ?_)));refine ap (uM b id).h λrA=> ?_;refine ox (aep ?_);refine ap (f:=λr=>[.b r]) ?_ λw=> ?_
 .refine bW ?_ ?_
  .exact ae (rfl)
  .refine bW ?_ ?_
   .exact ae (rfl)
   .exact ae (rfl)
 .refine ar (fO (bo ?_));refine cu ?_ ?_
  .exact ae (rfl)
  .refine cu ?_ ?_
   .exact ae (rfl)
   .refine bJ (n:=b.L.length) (by simp only [bD,sh,AI]) ?_;refine bW ?_ ?_
    .exact ae (rfl)
    .refine FY (uX rfl rfl) ?_;refine ap (uY (size:=3) (f:=bq) (λ_=>rfl) b.L) λaO=> ?_;refine Fu ?_;refine ap (N7 (f:=bq) aO rA.1 ([(⟨id,span,AT .i64 (b.eh+span)⟩:aB)]:List aB)) λbK=> ?_;refine Fu ?_;exact ae (rfl)
instance LY (w:af):Es (lU w) (lZ [.cell (.func 0 (bG w))]) (λr=> .eH ((λ_=> .cw []) r.1) (bG r.2)):=⟨by
 unfold lU;delta lZ;conv=>arg 2;whnf
 refine kr (aan w.r.aE w.o.Session w.o.Span) λrA=> ?_;exact sm⟩
instance apa (b:aA) (id:Int):Es (tF b id) (ym [eu b,.i .i64 id]) (λr=> .cw [eu r.1,.i .i64 r.2]):=⟨by
 unfold tF;delta ym;conv=>arg 2;whnf
 refine oO (uM b id) λrA=> ?_;conv=>arg 2;whnf
 refine gY ?_ ?_
 .exact sm
 .conv=>arg 2;whnf
  refine kr (uY (size:=3) (f:=bq) (λ_=>rfl) b.L) λaO=> ?_;exact sm⟩
instance Kc (w:af):Es (kJ w) (kZ [.cell (.func 0 (bG w))]) (λr=> .eH ((λ_=> .cw []) r.1) (bG r.2)):=⟨by unfold kJ;delta kZ;exact sm⟩
instance apb (b:aA) (id:Int):Es (tG b id) (yn [eu b,.i .i64 id]) (λr=> .cw [eu r.1,.i .i64 r.2]):=⟨by
 unfold tG;delta yn;conv=>arg 2;whnf
 refine oO (uM b id) λrA=> ?_;conv=>arg 2;whnf
 refine gY ?_ ?_
 .exact sm
 .conv=>arg 2;whnf
  refine kr (uY (size:=3) (f:=bq) (λ_=>rfl) b.L) λaO=> ?_;conv=>arg 2;whnf
  refine kr (Xl (f:=bq) aO rA.1 (AT .i64 (rA.1+1))) λbK=> ?_;exact sm⟩
instance aao (sA:ax) (owner:Int):Es (wi sA owner) (Bh [cL sA,.i .i64 owner]) (λr=> .cw [cL r.1,.list (r.2.map MV.s)]):=⟨by
 unfold wi;delta Bh;conv=>arg 2;whnf
 refine ap (dq (λr=>[.list (r.1.map MV.s),.list (r.2.1.map bE),.i .i64 r.2.2]) (λr=>(2,[.list (r.1.map MV.s),.list (r.2.map bE)])) λst=> ?_) λw=> ?_
 .unfold qA;exact sm
 .exact sm⟩
instance afM (w:af) (id:Int):Es (jJ w id) (pz [.cell (.func 0 (bG w)),.i .i64 id]) (λr=> .eH ((λ_=> .cw []) r.1) (bG r.2)):=⟨by
 unfold jJ;delta pz;conv=>arg 2;whnf
 refine oO (aao w.r.Shelf id) λrA=> ?_;conv=>arg 2;whnf
 refine ap (dq (λr=>(v0 r)) (λr=>(2,(v1 r))) λst=> ?_) λw1=> ?_
 .unfold jW;exact sm
 .exact sm⟩
instance Ke (w:af):Es (kK w) (lc [.cell (.func 0 (bG w))]) (λr=> .eH ((λ_=> .cw []) r.1) (bG r.2)):=⟨by unfold kK;delta lc;exact sm⟩
instance aap (b:aA) (now:Int):Es (wj b now) (Bi [eu b,.i .i64 now]) (λr=> .cw [eu r.1,.list (r.2.1.map (MV.i .i64)),.i .i64 r.2.2]):=⟨by
 unfold wj;delta Bi;conv=>arg 2;whnf
 first|refine cf ?_|refine gj ?_ ?_
 .exact sm
 .conv=>arg 2;whnf
  first|refine cf ?_|refine gj ?_ ?_
  .exact sm
  .conv=>arg 2;whnf
   refine ap (dq (λr=>[.list (r.1.map (MV.i .i64)),.i .i64 r.2.1,.list (r.2.2.1.map bq),.i .i64 r.2.2.2]) (λr=>(3,[.list (r.1.map (MV.i .i64)),.i .i64 r.2.1,.list (r.2.2.map bq)])) λst=> ?_) λw=> ?_
   .exact sm
   .exact sm⟩
instance LZ (w:af):Es (lV w) (ma [.cell (.func 0 (bG w))]) (λr=> .eH ((λ_=> .cw []) r.1) (bG r.2)):=⟨by
 unfold lV;delta ma;conv=>arg 2;whnf
 refine oO (aap w.r.aE w.o.Span) λrA=> ?_;conv=>arg 2;whnf
 refine gY ?_ ?_
 .exact sm
 .conv=>arg 2;whnf
  refine ap (dq (λr=>(v0 r)) (λr=>(2,(v1 r))) λst=> ?_) λw1=> ?_
  .unfold jX;conv=>arg 2;whnf
   first|refine cf ?_|refine gj ?_ ?_
   .conv=>arg 2;whnf
    refine lR (f:=(MV.i .i64)) λy=> ?_;exact sm
   .exact sm
  .exact sm⟩
instance Va (sA:List aq) (v:aq):Es (iK sA v) (iQ [.list (sA.map bA),bA v]) (MV.i .i64):=⟨by unfold iK;delta iQ;exact sm⟩
instance xG (sA:List aq) (v:aq):Es (dV sA v) (dW [.list (sA.map bA),bA v]) MV.b:=⟨by unfold dV;delta dW;exact sm⟩
def aet (t:bZ)(w:aq):Sm (λr=> .cw [oW r.1,.i .i64 r.2]) (Em (oW t) (bA w)) (vB t w):=by
 unfold Em vB;refine da (ar (bF (bo (da (ao7 ?_)))));refine ap (aaj w.Path).h λrA=> ?_;refine fO ?_;refine cu ?_ ?_
 .exact ae (rfl)
 .refine bW ?_ ?_
  .exact ae (rfl)
  .refine ap (xG t.L w).h λaO=> ?_;refine fO ?_;refine cu ?_ ?_
   .exact ae (rfl)
   .refine bJ (n:=t.L.length) (by simp only [bD,sh,AI]) ?_;refine bW ?_ ?_
    .exact ae (rfl)
    .refine FY (uX rfl rfl) ?_;refine ap (uY (size:=3) (f:=bA) (λ_=>rfl) t.L) λbK=> ?_;refine Fu (bJ (n:=bK.length) (by simp only [bD,sh,AI]) (bJ (n:=([w]:List aq).length) (by simp only [bD,sh,AI]) (aL ?_)));exact ae (by simp [bG])
instance Kf (w:af):Es (kL w) (lf [.cell (.func 0 (bG w))]) (λr=> .eH ((λ_=> .cw []) r.1) (bG r.2)):=⟨by
 unfold kL;delta lf;conv=>arg 2;whnf
 refine kr (aet w.r.aD (⟨w.o.Path,w.o.Client,decide (w.o.Kind=11)⟩:aq)) λrA=> ?_;exact sm⟩
instance aaq:Es (wk) (wZ []) (FW (λx:Nat=>MV.func x [])):=⟨by unfold wk;delta wZ;exact sm⟩
instance akN (c:az) (w:aq):Es (oY c w) (tj [eZ c,bA w]) MV.b:=⟨by unfold oY;delta tj;exact sm⟩
instance Vb (w:aq) (c:az) (c1:List aY):Es (od w c c1) (rf [bA w,.rp [.i .i64 c.Kind,.s c.Path],.cell (.func 0 [.list (c1.map dm)])]) (λr=> .eH (MV.b r.1) [.list (r.2.map dm)]):=⟨by unfold od;delta rf;exact sm⟩
instance aar (t:bZ) (lA:List az):Es (wm t lA) (xa [oW t,.list (lA.map eZ)]) (λr=> .cw [oW r.1,.list (r.2.map dm)]):=⟨by
 unfold wm;delta xa;conv=>arg 2;whnf
 refine kr (uY (size:=3) (f:=bA) (λ_=>rfl) t.L) λrA=> ?_;conv=>arg 2;whnf
 refine ap (dq (λr=>[.list (r.1.map bA),.list (r.2.1.map dm),.i .i64 r.2.2]) (λr=>(2,[.list (r.1.map bA),.list (r.2.map dm)])) λst=> ?_) λw=> ?_
 .unfold qB;conv=>arg 2;whnf
  first|refine cf ?_|refine gj ?_ ?_
  .conv=>arg 2;whnf
   refine lR (f:=eZ) λy=> ?_;conv=>arg 2;whnf
   refine bP (ah4 (rfl:_=afE bA st.1) λ_=>rfl) ?_;conv=>arg 2;whnf
   refine kr (ah5 (f:=bA) (lv:=(λsA=>[.list (sA.map dm)])) (aV:=[.rp [.i .i64 y.Kind,.s y.Path]]) (λu sA=>Sm.at (Bj (bA u) (.rp [.i .i64 y.Kind,.s y.Path]) [.list (sA.map dm)]) (Vb u y sA).h) st.2.1 st.1) λaO=> ?_;exact sm
  .exact sm
 .exact sm⟩
def Rh (k:Nat)(x0:af):Sm (λr=> .eH ((λ_=> .cw []) r.1) [.list (r.2.r.Shelf.L.map bE),.i .i64 r.2.r.aE.eh,.list (r.2.r.aE.L.map bq),.list (r.2.r.aD.L.map bA),.list (r.2.r.Seen.map aU),.i .i64 r.2.o.Client,.i .i64 r.2.o.Seq,.i .i64 r.2.o.Kind,.s r.2.o.Path,.s r.2.o.Value,.i .i64 r.2.o.Version,.i .i64 r.2.o.Session,.i .i64 r.2.o.Span,.i .i64 r.2.x.Client,.i .i64 r.2.x.Seq,.i .i64 r.2.x.E,.s r.2.x.Value,.i .i64 r.2.x.Version,.list (r.2.x.Names.map MV.s),.list (r.2.l.map eZ)]) (Qr [74,75,76,77,78,79,80,81,82,83,84] k λk=>dn k [.cell (.func 0 [.list (x0.r.Shelf.L.map bE),.i .i64 x0.r.aE.eh,.list (x0.r.aE.L.map bq),.list (x0.r.aD.L.map bA),.list (x0.r.Seen.map aU),.i .i64 x0.o.Client,.i .i64 x0.o.Seq,.i .i64 x0.o.Kind,.s x0.o.Path,.s x0.o.Value,.i .i64 x0.o.Version,.i .i64 x0.o.Session,.i .i64 x0.o.Span,.i .i64 x0.x.Client,.i .i64 x0.x.Seq,.i .i64 x0.x.E,.s x0.x.Value,.i .i64 x0.x.Version,.list (x0.x.Names.map MV.s),.list (x0.l.map eZ)])]) (tc k x0):=by unfold tc;refine ta (λ_=>Sm.at (ue _) (GC x0).h) ?_;refine ta (λ_=>Sm.at (uI _) (Il x0).h) ?_;refine ta (λ_=>Sm.at (xC _) (PI x0).h) ?_;refine ta (λ_=>Sm.at (xD _) (PJ x0).h) ?_;refine ta (λ_=>Sm.at (uJ _) (Im x0).h) ?_;refine ta (λ_=>Sm.at (xb _) (LX x0).h) ?_;refine ta (λ_=>Sm.at (xc _) (LY x0).h) ?_;refine ta (λ_=>Sm.at (vj _) (Kc x0).h) ?_;refine ta (λ_=>Sm.at (vk _) (Ke x0).h) ?_;refine ta (λ_=>Sm.at (xd _) (LZ x0).h) ?_;refine ama (λ_=>Sm.at (vl _) (Kf x0).h)
def X9 (a:aj)(a1:aa):Sm (λr=> .cw [c8 r.1,aU r.2.1,.list (r.2.2.map dm)]) (yo (c8 a) (aQ a1)) (tH a a1):=by
 unfold yo tH;refine da (rr (da (sP ?_)));refine ap (Ka a a1).h λrA=> ?_;refine ox (ar (da (gK (ar (fO (bo ?_))))));refine cu ?_ ?_
 .exact ae (rfl)
 .refine ap (aaq).h λaO=> ?_;refine bF ?_;refine dJ (f:=(λx:Nat=>MV.func x [])) (rfl) λy=> ?_;refine FX (yI (bo ?_));refine ap (Rh y (⟨a,a1,rA.1,([]:List az)⟩:af)) λbK=> ?_;refine xY (rv ?_);refine ap (aar bK.2.r.aD bK.2.l).h λgQ=> ?_;refine ox (ar (da (ar (bF (bo (ar (bF (bo ?_))))))));refine ap (uY (size:=6) (f:=aU) (λ_=>rfl) a.Seen) λn6=> ?_;refine Fu ?_;refine ap (J8 a a1.Client).h λrH=> ?_;refine ox (aep ?_);refine ap (f:=(λr=>(0,(v1 r)))) ?_ λw=> ?_
  .refine cu ?_ ?_
   .refine dJ (f:=aU) (rfl) λy1=> ?_;refine da (gK ?_);exact ae (by simp [dL,fH,v1])
   .refine ap (N7 (f:=aU) n6 rH.1 ([bK.2.x]:List ah)) λn7=> ?_;refine Fu ?_;exact ae (rfl)
  .refine bP rfl (rv ?_);refine FY (uX rfl rfl) ?_;exact ae (rfl)
instance aas (rA:aj) (lA:List aa):Es (wo rA lA) (xe [c8 rA,.list (lA.map aQ)]) (λr=> .cw [c8 r.1,.list (r.2.1.map aU),.list (r.2.2.map dm)]):=⟨by
 unfold wo;delta xe;conv=>arg 2;whnf
 refine ap (dq (λr=>[.list (r.1.map bE),.i .i64 r.2.1,.list (r.2.2.1.map bq),.list (r.2.2.2.1.map bA),.list (r.2.2.2.2.1.map aU),.list (r.2.2.2.2.2.1.map aU),.list (r.2.2.2.2.2.2.1.map dm),.i .i64 r.2.2.2.2.2.2.2]) (λr=>(2,[.list (r.1.map bE),.i .i64 r.2.1,.list (r.2.2.1.map bq),.list (r.2.2.2.1.map bA),.list (r.2.2.2.2.1.map aU),.list (r.2.2.2.2.2.1.map aU),.list (r.2.2.2.2.2.2.map dm)])) λst=> ?_) λw=> ?_
 .unfold qD;conv=>arg 2;whnf
  first|refine cf ?_|refine gj ?_ ?_
  .conv=>arg 2;whnf
   refine lR (f:=aQ) λy=> ?_;conv=>arg 2;whnf
   refine kr (X9 (⟨(⟨st.1⟩:ax),(⟨st.2.1,st.2.2.1⟩:aA),(⟨st.2.2.2.1⟩:bZ),st.2.2.2.2.1⟩:aj) y) λn7=> ?_;conv=>arg 2;whnf
   first|refine cf ?_|refine CL ?_
   conv=>arg 2;whnf
   refine bP (et (rfl:_=afE dm n7.2.2) λ_=>rfl) ?_;exact sm
  .exact sm
 .exact sm⟩
theorem GF (b:List Int):Sm (λr=> .cw [.i .u64 r.1,.list (r.2.1.map (MV.i .u8)),.i .i64 r.2.2]) (sN (.list (b.map (MV.i .u8)))) (pJ b):=by
 unfold sN pJ;refine bF (bJ (n:=b.length) (by simp only [bD,sh,AI]) ?_);refine bW ?_ ?_
 .exact ae (rfl)
 .refine dJ (f:=(MV.i .u8)) (rfl) λy=> ?_;refine aH (bP (et (rfl:_=afE (MV.i .u8) b) λ_=>rfl) (bJ (n:=b.length) (by simp only [bD,sh,AI]) (aL ?_)));refine ap (f:=λr=>[.b r]) ?_ λw=> ?_
  .refine bW ?_ ?_
   .exact ae (rfl)
   .refine bW ?_ ?_
    .refine bJ (n:=(aec (AS 1) (aeY (AS (b.length:Int)) b)).length) (by simp only [bD,IT,sh,AI,IN,ac4,afD]) ?_;refine bW ?_ ?_
     .refine dJ (f:=(MV.i .u8)) (by simp only [pk,afN,ab2,afw,afz,aft,afu,afC]) λy1=> ?_;refine aH ?_;exact ae (rfl)
     .exact ae (rfl)
    .exact ae (rfl)
  .refine ar (fO (bo ?_));refine cu ?_ ?_
   .exact ae (rfl)
   .refine bJ (n:=(aec (AS 1) (aeY (AS (b.length:Int)) b)).length) (by simp only [bD,IT,sh,AI,IN,ac4,afD]) ?_;refine bW ?_ ?_
    .exact ae (rfl)
    .refine bJ (n:=(aec (AS 1) (aeY (AS (b.length:Int)) b)).length) (by simp only [bD,IT,sh,AI,IN,ac4,afD]) (aL (bJ (n:=(aec (AS 0) (aeY (AS (AT .i64 y)) (aec (AS 1) (aeY (AS (b.length:Int)) b)))).length) (by simp only [bD,IT,sh,AI,IN,ac4,afD]) ?_));refine ap (dy (λr=>[.i .u64 r.1,.i .i64 r.2]) (λr=>(3,[.i .u64 r])) (rfl) λst=> ?_) λw1=> ?_
     .unfold qE;refine aai ?_;refine bW ?_ ?_
      .refine dJ (f:=(MV.i .u8)) (by simp only [pk,afN,ab2,afw,afz,aft,afu,afC]) λy2=> ?_;refine aH (aL ?_);exact ae (rfl)
      .exact ae (rfl)
     .refine bP rfl (ar (aH (bo (bP (et ((by simp only [pk,afN,ab2,afw,afz,aft,afu,afC]):_=afE (MV.i .u8) (aec (AS 1) (aeY (AS (b.length:Int)) b))) λ_=>rfl) (bJ (n:=(aec (AS 1) (aeY (AS (b.length:Int)) b)).length) (by simp only [bD,IT,sh,AI,IN,ac4,afD]) (aL ?_))))));exact ae (by first|(simp;done)|simp only [ab2,afw,afz,aft,afu,afC])
def Ri (b:List Int):Sm (λr=> .cw [.i .i64 r.1,.list (r.2.1.map (MV.i .u8)),.i .i64 r.2.2]) (o8 (.list (b.map (MV.i .u8)))) (mf b):=by unfold o8 mf;refine bF ?_;refine ap (GF b) λrA=> ?_;refine ox (ao6 (aL ?_));exact ae (rfl)
def PK (b:List Int)(most:Int):Sm (λr=> .cw [.s r.1,.list (r.2.1.map (MV.i .u8)),.i .i64 r.2.2]) (nR (.list (b.map (MV.i .u8))) (.i .i64 most)) (kM b most):=by
 unfold nR kM;refine bF (aH ?_);refine ap (GF b) λrA=> ?_;refine ox (ao6 ?_);refine cu ?_ ?_
 .exact ae (rfl)
 .refine bW ?_ ?_
  .exact ae (rfl)
  .refine bJ (n:=rA.2.1.length) (by simp only [bD,sh,AI]) ?_;refine bW ?_ ?_
   .exact ae (rfl)
   .refine bJ (n:=rA.2.1.length) (by simp only [bD,sh,AI]) (aL ?_);refine ZV (M:=aec (AS 0) (aeY (AS rA.1) rA.2.1)) ((by simp only [pk,afN,ab2,afw,afz,aft,afu,afC])) λbs=> ?_;refine bP (et (rfl:_=afE (MV.i .u8) rA.2.1) λ_=>rfl) (bJ (n:=rA.2.1.length) (by simp only [bD,sh,AI]) (aL ?_));exact ae (by first|(simp;done)|simp only [ab2,afw,afz,aft,afu,afC])
def Sv {j:Nat}{b:List Int}{e x:Int}{os:List MV}(h:os[j]? =some (.i .i64 x)):tkI cm BS j ⟨b.map (MV.i .u8),e,os⟩=(qG b e x).map λr=>⟨r.2.1.map (MV.i .u8),r.2.2,os.set j (.i .i64 r.1)⟩:=by
 unfold tkI qG;by_cases he:e=0
 .rw [if_pos he,if_pos he];show (match cm BS.ti [.list (b.map (MV.i .u8))] with|some (.cw [.i .i64 n,.list xs,.i .i64 e])=>_|_=>none)=_;rw [show cm BS.ti [.list (b.map (MV.i .u8))]=o8 (.list (b.map (MV.i .u8))) from by kernel_rfl];have h:=Ri b;unfold Sm at h;rw [h];cases mf b<;>rfl
 .rw [if_neg he,if_neg he];obtain ⟨hl,hx⟩:=akO.1 h;have hs:os.set j (.i .i64 x)=os:=by rw [<-hx,aku]
  show _=some (⟨b.map (MV.i .u8),e,os.set j (.i .i64 x)⟩:Xn);rw [hs]
def apc {j:Nat}{b:List Int}{e most:Int}{os:List MV}(h:os[j]? =some (.s [])):T8 cm BS j most ⟨b.map (MV.i .u8),e,os⟩=(ya b e most).map λr=>⟨r.2.1.map (MV.i .u8),r.2.2,os.set j (.s r.1)⟩:=by
 unfold T8 ya;by_cases he:e=0
 .rw [if_pos he,if_pos he];show (match cm BS.tx [.list (b.map (MV.i .u8)),.i .i64 most] with|some (.cw [.s l,.list xs,.i .i64 e])=>_|_=>none)=_;rw [show cm BS.tx [.list (b.map (MV.i .u8)),.i .i64 most]=nR (.list (b.map (MV.i .u8))) (.i .i64 most) from by kernel_rfl];have h:=PK b most;unfold Sm at h;rw [h];cases kM b most<;>rfl
 .rw [if_neg he,if_neg he];obtain ⟨hl,hx⟩:=akO.1 h;have hs:os.set j (.s [])=os:=by rw [<-hx,aku]
  show _=some (⟨b.map (MV.i .u8),e,os.set j (.s [])⟩:Xn);rw [hs]
def aat (b:List Int):Sm (λr=> .cw [aQ r.1,.list (r.2.1.map (MV.i .u8)),.i .i64 r.2.2]) (Bk (.list (b.map (MV.i .u8)))) (wu b):=by
 delta Bk
 show Xo cm BS (b.map (MV.i .u8))=_;unfold Xo wu;simp only [Jm];rw [Sv (j:=0) (x:=0) rfl];cases qG b 0 0 with|none=>rfl|some r0=> ?_;simp only [ags,ak];rw [Sv (j:=1) (x:=0) rfl];cases qG r0.2.1 r0.2.2 0 with|none=>rfl|some r1=> ?_;simp only [ags,ak];rw [Sv (j:=2) (x:=0) rfl];cases qG r1.2.1 r1.2.2 0 with|none=>rfl|some r2=> ?_;simp only [ags,ak];rw [Sv (j:=5) (x:=0) rfl];cases qG r2.2.1 r2.2.2 0 with|none=>rfl|some r3=> ?_;simp only [ags,ak];rw [Sv (j:=6) (x:=0) rfl];cases qG r3.2.1 r3.2.2 0 with|none=>rfl|some r4=> ?_;simp only [ags,ak];rw [Sv (j:=7) (x:=0) rfl];cases qG r4.2.1 r4.2.2 0 with|none=>rfl|some r5=> ?_;simp only [ags,ak];rw [apc (j:=3) rfl];cases ya r5.2.1 r5.2.2 100 with|none=>rfl|some s0=> ?_;simp only [ags,ak];rw [apc (j:=4) rfl];cases ya s0.2.1 s0.2.2 1000 with|none=>rfl|some s1=> ?_;simp only [ags,ak];by_cases he:s1.2.2=0;rotate_left
 .rw [if_neg he,if_neg he];rfl
 rw [if_pos he,if_pos he];have h:=J9 (⟨r0.1,r1.1,r2.1,s0.1,s1.1,r3.1,r4.1,r5.1⟩:aa);unfold Sm at h;show (match cm BS.may [aQ (⟨r0.1,r1.1,r2.1,s0.1,s1.1,r3.1,r4.1,r5.1⟩:aa)] with|some (.b true)=>_|some (.b false)=>_|_=>none)=_;rw [show cm BS.may [aQ (⟨r0.1,r1.1,r2.1,s0.1,s1.1,r3.1,r4.1,r5.1⟩:aa)]=zM (aQ (⟨r0.1,r1.1,r2.1,s0.1,s1.1,r3.1,r4.1,r5.1⟩:aa)) from by kernel_rfl,h];cases dK (⟨r0.1,r1.1,r2.1,s0.1,s1.1,r3.1,r4.1,r5.1⟩:aa) with
 |none=>rfl
 |some m=>cases m<;>rfl
instance amY (sA:List UInt8):Es (jY sA) (vo [.s sA]) (λr=> .cw [.list (r.1.map aQ),.i .i64 r.2]):=⟨by
 unfold jY;delta vo;conv=>arg 2;whnf
 refine kr (GF (sq sA)) λrA=> ?_;conv=>arg 2;whnf
 refine ap (f:=λr=>[.b r]) ?_ λw=> ?_
 .exact sm
 .conv=>arg 2;whnf
  refine gY ?_ ?_
  .exact sm
  .conv=>arg 2;whnf
   first|refine cf ?_|refine CL ?_
   conv=>arg 2;whnf
   refine ap (dq (λr=>[.list (r.1.map (MV.i .u8)),.list (r.2.1.map aQ),.i .i64 r.2.2]) (ait (λr=>(2,[.list (r.1.map (MV.i .u8)),.list (r.2.map aQ)])) (λr=>(1,[.list (r.1.map aQ),.i .i64 r.2]))) λst=> ?_) λw1=> ?_
   .unfold kN;conv=>arg 2;whnf
    first|refine cf ?_|refine gj ?_ ?_
    .conv=>arg 2;whnf
     refine kr (aat st.1) λaO=> ?_;exact sm
    .exact sm
   .rcases w1 with p1|p2
    .exact sm
    .exact sm⟩
instance Ya (rA:aj) (sA:List UInt8):Es (pY rA sA) (uf [c8 rA,.s sA]) (λr=> .cw [c8 r.1,.list (r.2.1.map aU),.i .i64 r.2.2]):=⟨by unfold pY;delta uf;exact sm⟩
instance aau (x:Int):Es (AE x) (xg [.i .u64 x]) (MV.i .i64):=⟨by
 unfold AE;delta xg;conv=>arg 2;whnf
 refine ap (f:=(λr=>(0,[.i .u64 r.1,.i .i64 r.2]))) ?_ λw=> ?_
 .exact sm
 .conv=>arg 2;whnf
  refine ap (f:=(λr=>(0,[.i .u64 r.1,.i .i64 r.2]))) ?_ λw1=> ?_
  .exact sm
  .conv=>arg 2;whnf
   refine ap (f:=(λr=>(0,[.i .u64 r.1,.i .i64 r.2]))) ?_ λw2=> ?_
   .exact sm
   .exact sm⟩
def aav (n:Int):Sm (MV.i .i64) (Bm (.i .u64 n)) (wv n):=by unfold Bm wv;refine aH ?_;refine ap (aau n).h λrA=> ?_;refine aH (Ml ?_);exact ae (rfl)
instance L0 (sA:List Int):Es (pq sA) (pA [.list (sA.map (MV.i .u8))]) (avj (MV.i .u8)):=⟨by
 unfold pq;delta pA;conv=>arg 2;whnf
 refine ab3 (by simp only [bD]) ?_;exact sm⟩
instance as6 (b:List Int) (n:Int):Es (sw b n) (Eo [.list (b.map (MV.i .u8)),.i .u64 n]) (CJ (MV.i .u8)):=⟨by
 unfold sw;delta Eo;conv=>arg 2;whnf
 refine kr (aav n) λrA=> ?_;conv=>arg 2;whnf
 refine oO (L0 b) λaO=> ?_;conv=>arg 2;whnf
 refine bP (et (rfl:_=afE (MV.i .u8) aO) λ_=>rfl) ?_;conv=>arg 2;whnf
 first|refine cf ?_|refine CL ?_
 conv=>arg 2;whnf
 refine ap (dq (λr=>[.list (r.1.map (MV.i .u8)),.i .i64 r.2]) (λr=>(2,[.list (r.map (MV.i .u8))])) λst=> ?_) λw=> ?_
 .unfold tJ;exact sm
 .exact sm⟩
instance ar0 (b:List Int) (sA:List UInt8):Es (lG b sA) (Bn [.list (b.map (MV.i .u8)),.s sA]) (CJ (MV.i .u8)):=⟨by unfold lG;delta Bn;exact sm⟩
instance as7 (b:List Int) (n:Int):Es (vC b n) (Ep [.list (b.map (MV.i .u8)),.i .i64 n]) (CJ (MV.i .u8)):=⟨by unfold vC;delta Ep;exact sm⟩
instance ar1 (b:List Int) (lA:List Int):Es (sB b lA) (Bo [.list (b.map (MV.i .u8)),.list (lA.map (MV.i .i64))]) (FW (MV.i .u8)):=⟨by
 unfold sB;delta Bo;conv=>arg 2;whnf
 refine ap (dq (λr=>[.list (r.1.map (MV.i .u8)),.i .i64 r.2]) (λr=>(2,[.list (r.map (MV.i .u8))])) λst=> ?_) λw=> ?_
 .unfold vc;conv=>arg 2;whnf
  first|refine cf ?_|refine gj ?_ ?_
  .conv=>arg 2;whnf
   refine lR (f:=(MV.i .i64)) λy=> ?_;exact sm
  .exact sm
 .exact sm⟩
def aiX:vI=some (.b true):=abs
def Sw:Sm MV.b vI zn:=aiX
instance awv (kind:Int):Es (CQ kind) (HQ [.i .i64 kind]) MV.s:=⟨by unfold CQ;delta HQ;exact sm⟩
instance aAQ (sA:List UInt8) (c:Int):Es (iL sA c) (Us [.s sA,.i .u8 c]) MV.b:=⟨by unfold iL;delta Us;exact sm⟩
instance amZ (a:aJ):Es (yb a) (HR [ct a]) MV.b:=⟨by unfold yb;delta HR;exact sm⟩
instance aiY (rA:bu) (eT:Int):Es (wz rA eT) (Di [dc rA,.i .i64 eT]) (λr=> .cw [bX r.1,.b r.2]):=⟨by unfold wz;delta Di;exact sm⟩
instance Vc (b:cg) (id:Int):Es (td b id) (HS [kf b,.i .i64 id]) MV.b:=⟨by unfold td;delta HS;exact sm⟩
def acs (p:List UInt8):Sm (λr=> .cw [CJ MV.s r.1,.b r.2]) (Ms (.s p)) (Eb p):=by
 unfold Ms Eb;refine nw ?_;refine ap (f:=λr=>[.b r]) ?_ λw=> ?_
 .refine bW ?_ ?_
  .exact ae (rfl)
  .refine aL ?_;exact ae (rfl)
 .refine ar (fO (bo ?_));refine cu ?_ ?_
  .exact ae (rfl)
  .refine bW ?_ ?_
   .exact ae (rfl)
   .refine ap (dy (λr=>[.list (r.1.map MV.s),.s r.2.1,.i .i64 r.2.2]) (λr=>(2,[.list (r.1.map MV.s),.s r.2])) (rfl) λst=> ?_) λw1=> ?_
    .unfold zo;refine ar (bF (ar (nw (ar (aH (bo ?_))))));refine bW ?_ ?_
     .refine aL ?_;refine ap (f:=(λr=>(0,[.list (r.1.map MV.s),.s r.2]))) ?_ λw2=> ?_
      .refine bW ?_ ?_
       .refine bJ (n:=st.1.length) (by simp only [bD,sh,AI]) (bJ (n:=([st.2.1]:List (List UInt8)).length) (by simp only [bD,sh,AI]) (aL ?_));exact ae abu
       .refine aL ?_;refine ZV (M:=([((p.getD (AS st.2.2) 0).toNat:Int)]:List Int)) (rfl) λbs=> ?_;refine aL ?_;exact ae (rfl)
      .refine bP rfl (ar (bF (ar (nw (bo ?_)))));exact ae (rfl)
     .exact ae (rfl)
    .refine bP rfl (ar (bF (ar (nw (bo (bJ (n:=w1.1.length) (by simp only [bD,sh,AI]) (bJ (n:=([w1.2]:List (List UInt8)).length) (by simp only [bD,sh,AI]) (aL ?_))))))));exact ae abu
instance ar2 (sA:List UInt8):Es (wA sA) (Br [.s sA]) MV.b:=⟨by unfold wA;delta Br;exact sm⟩
instance Kg (p:List UInt8):Es (kO p) (Er [.s p]) MV.b:=⟨by
 unfold kO;delta Er;conv=>arg 2;whnf
 first|refine cf ?_|refine gj ?_ ?_
 .exact sm
 .conv=>arg 2;whnf
  refine kr (acs p) λrA=> ?_;exact sm⟩
instance as8 (p:List UInt8):Es (pZ p) (Et [.s p]) (λr=> .cw [CJ MV.s r.1,.i .i64 r.2]):=⟨by
 unfold pZ;delta Et;conv=>arg 2;whnf
 refine oO (Kg p) λrA=> ?_;conv=>arg 2;whnf
 refine gY ?_ ?_
 .exact sm
 .conv=>arg 2;whnf
  refine kr (acs p) λaO=> ?_;exact sm⟩
instance aww (lA:List (List UInt8)):Es (CR lA) (HT [.list (lA.map MV.s)]) MV.s:=⟨by unfold CR;delta HT;exact sm⟩
instance aaw (p:List UInt8):Es (nE p) (Bs [.s p]) (λr=> .cw [.s r.1,.i .i64 r.2]):=⟨by unfold nE;delta Bs;exact sm⟩
instance aax (sA:bm) (p:List UInt8):Es (wB sA p) (O4 [db sA,.s p]) (MV.i .i64):=⟨by unfold wB;delta O4;exact sm⟩
instance as9 (p:List UInt8) (q:List UInt8):Es (zp p q) (Eu [.s p,.s q]) MV.b:=⟨by unfold zp;delta Eu;exact sm⟩
instance aay (a:bm) (a1:List UInt8) (a2:List UInt8) (a3:Int):Es (wC a a1 a2 a3) (xh [db a,.s a1,.s a2,.i .i64 a3]) (λr=> .cw [db r.1,.i .i64 r.2]):=⟨by
 unfold wC;delta xh;conv=>arg 2;whnf
 refine oO (Kg a1) λrA=> ?_;conv=>arg 2;whnf
 refine gY ?_ ?_
 .exact sm
 .conv=>arg 2;whnf
  refine oO (aax a a1) λaO=> ?_;conv=>arg 2;whnf
  first|refine cf ?_|refine gj ?_ ?_
  .exact sm
  .conv=>arg 2;whnf
   refine oO (aaw a1) λbK=> ?_;conv=>arg 2;whnf
   refine oO (aax a bK.1) λgQ=> ?_;conv=>arg 2;whnf
   first|refine cf ?_|refine gj ?_ ?_
   .exact sm
   .conv=>arg 2;whnf
    refine lR (f:=cM) λy=> ?_;conv=>arg 2;whnf
    refine gY ?_ ?_
    .exact sm
    .conv=>arg 2;whnf
     first|refine cf ?_|refine gj ?_ ?_
     .exact sm
     .conv=>arg 2;whnf
      first|refine cf ?_|refine gj ?_ ?_
      .exact sm
      .conv=>arg 2;whnf
       first|refine cf ?_|refine gj ?_ ?_
       .exact sm
       .conv=>arg 2;whnf
        refine ap (dq (λr=>[.list (r.1.map cM),.b r.2.1,.i .i64 r.2.2]) (λr=>(2,[.list (r.1.map cM),.b r.2])) λst=> ?_) λw=> ?_
        .unfold qI;conv=>arg 2;whnf
         first|refine cf ?_|refine gj ?_ ?_
         .conv=>arg 2;whnf
          refine ap (f:=λr=>[.b r]) ?_ λw1=> ?_
          .exact sm
          .conv=>arg 2;whnf
           refine ap (f:=(λr=>(0,[.list (r.1.map cM),.b r.2]))) ?_ λw2=> ?_
           .exact sm
           .exact sm
         .exact sm
        .conv=>arg 2;whnf
         refine ap (f:=(λr=>(0,[.list (r.map cM)]))) ?_ λw3=> ?_
         .exact sm
         .exact sm⟩
instance MF (sA:bm) (p:List UInt8):Es (ve sA p) (Bt [db sA,.s p]) (λr=> .cw [cM r.1,.i .i64 r.2]):=⟨by unfold ve;delta Bt;exact sm⟩
instance am0 (sA:bm) (p:List UInt8) (value:List UInt8) (version:Int):Es (HB sA p value version) (HU [db sA,.s p,.s value,.i .i64 version]) (λr=> .cw [db r.1,.i .i64 r.2]):=⟨by
 unfold HB;delta HU;conv=>arg 2;whnf
 refine oO (MF sA p) λrA=> ?_;conv=>arg 2;whnf
 refine gY ?_ ?_
 .exact sm
 .conv=>arg 2;whnf
  refine ap (f:=λr=>[.b r]) ?_ λw=> ?_
  .exact sm
  .conv=>arg 2;whnf
   refine gY ?_ ?_
   .exact sm
   .conv=>arg 2;whnf
    first|refine cf ?_|refine gj ?_ ?_
    .exact sm
    .conv=>arg 2;whnf
     first|refine cf ?_|refine gj ?_ ?_
     .exact sm
     .conv=>arg 2;whnf
      refine bP (et (rfl:_=afE cM sA.L) λ_=>rfl) ?_;exact sm⟩
instance aiZ (sA:bm) (p:List UInt8):Es (zq sA p) (Dl [db sA,.s p]) (FW MV.s):=⟨by unfold zq;delta Dl;exact sm⟩
def aaz (sA:bm)(p:List UInt8)(version:Int):Sm (λr=> .cw [db r.1,.i .i64 r.2]) (xi (db sA) (.s p) (.i .i64 version)) (wD sA p version):=by
 unfold xi wD;refine da (ar (bF (bo (nw (aH ?_)))));refine ap (MF sA p).h λrA=> ?_;refine ox (ar (da (J7 (ar (aH (bo ?_))))));refine cu ?_ ?_
 .exact ae (rfl)
 .refine bW ?_ ?_
  .exact ae (rfl)
  .refine ap (f:=λr=>[.b r]) ?_ λw=> ?_
   .refine cu ?_ ?_
    .exact ae (rfl)
    .exact ae (rfl)
   .refine ar (fO (bo ?_));refine cu ?_ ?_
    .exact ae (rfl)
    .refine ap (aiZ sA p).h λaO=> ?_;refine bF (bJ (n:=aO.length) (by simp only [bD,sh,AI]) ?_);refine bW ?_ ?_
     .exact ae (rfl)
     .refine ap (aax sA p).h λbK=> ?_;refine aH (bJ (n:=sA.L.length) (by simp only [bD,sh,AI]) (aL (bP (et ((by simp only [pk,afN,ab2,afw,afz,aft,afu,afC]):_=afE cM (aec (AS 0) (aeY (AS bK) sA.L))) λ_=>rfl) (bJ (n:=([]:List aW).length) (by simp only [bD,sh,AI]) (bJ (n:=(aec (AS 0) (aeY (AS bK) sA.L)).length) (by simp only [bD,IT,sh,AI,IN,ac4,afD]) (aL (bP (et (rfl:_=afE cM sA.L) λ_=>rfl) (bJ (n:=sA.L.length) (by simp only [bD,sh,AI]) (aL (bP (et ((by simp only [pk,afN,ab2,afw,afz,aft,afu,afC]):_=afE cM (aec (AS (AT .i64 (bK+1))) (aeY (AS (sA.L.length:Int)) sA.L))) λ_=>rfl) (bJ (n:=(([]:List aW)++(aec (AS 0) (aeY (AS bK) sA.L))).length) (by simp only [bD,IT,sh,AI,IN,ac4,afD]) ?_)))))))))));refine bJ (n:=(aec (AS (AT .i64 (bK+1))) (aeY (AS (sA.L.length:Int)) sA.L)).length) (by simp only [bD,IT,sh,AI,IN,ac4,afD]) (aL ?_);exact ae (by first|(simp;done)|simp only [cM,db,Jo,F3,ab2,afw,afz,aft,afu,afC])
instance ai0 (sA:bm) (p:List UInt8):Es (CT sA p) (Dm [db sA,.s p]) (λr=> .cw [.list (r.1.map MV.s),.i .i64 r.2]):=⟨by unfold CT;delta Dm;exact sm⟩
def Yb (a:bu)(a1:aJ):Sm (λr=> .cw [dc r.1,bX r.2.1,.list (r.2.2.map e8)]) (yp (dc a) (ct a1)) (p0 a a1):=by
 unfold yp p0;refine da (rr (da (sP ?_)));refine ap (f:=(λr=>(0,(v3 r)))) ?_ λw=> ?_
 .refine bW ?_ ?_
  .refine ap (f:=λr=>[.b r]) ?_ λw1=> ?_
   .refine cu ?_ ?_
    .refine bW ?_ ?_
     .exact ae (rfl)
     .refine ap (Vc a.aE a1.Session).h λrA=> ?_;refine fO ?_;exact ae (rfl)
    .exact ae (rfl)
   .refine ar (fO (bo ?_));refine ap (f:=(λr=>(0,(v4 r)))) ?_ λw2=> ?_
    .refine cu ?_ ?_
     .exact ae (rfl)
     .refine ap (aay a.Shelf a1.Path a1.Value a1.Session).h λaO=> ?_;refine ox (ar (da (ar (bF (bo (ar (aH (bo ?_))))))));exact ae (rfl)
    .refine bP rfl (ar (bF (ar (aH (ar (bF (ar (bF (ar (bF (gK ?_)))))))))));exact ae (rfl)
  .refine ap (f:=(λr=>(0,(v3 r)))) ?_ λw3=> ?_
   .refine bW ?_ ?_
    .refine ap (MF a.Shelf a1.Path).h λbK=> ?_;refine ox (ar (da (J7 (ar (aH (bo ?_))))));exact ae (rfl)
    .refine ap (f:=(λr=>(0,(v3 r)))) ?_ λw4=> ?_
     .refine bW ?_ ?_
      .refine ap (am0 a.Shelf a1.Path a1.Value a1.Version).h λgQ=> ?_;refine ox (ar (da (ar (bF (bo (ar (aH (bo ?_))))))));refine ap (f:=(λr=>(0,[.i .i64 r.1,.i .i64 r.2.1,.i .i64 r.2.2.1,.s r.2.2.2.1,.i .i64 r.2.2.2.2.1,.list (r.2.2.2.2.2.map MV.s)]))) ?_ λw5=> ?_
       .refine bW ?_ ?_
        .refine ap (MF gQ.1 a1.Path).h λn6=> ?_;refine ox (ar (da (J7 (ar (aH (bo ?_))))));exact ae (rfl)
        .exact ae (rfl)
       .refine bP rfl (gK ?_);exact ae (rfl)
      .refine ap (f:=(λr=>(0,(v3 r)))) ?_ λw6=> ?_
       .refine bW ?_ ?_
        .refine ap (aaz a.Shelf a1.Path a1.Version) λrH=> ?_;refine ox (ar (da (ar (bF (bo (ar (aH (bo ?_))))))));exact ae (rfl)
        .refine ap (f:=(λr=>(0,[.i .i64 r.1,.i .i64 r.2.1,.i .i64 r.2.2.1,.s r.2.2.2.1,.i .i64 r.2.2.2.2.1,.list (r.2.2.2.2.2.map MV.s)]))) ?_ λw7=> ?_
         .refine bW ?_ ?_
          .refine ap (ai0 a.Shelf a1.Path).h λn7=> ?_;refine ox (DD ?_);exact ae (rfl)
          .exact ae (rfl)
         .refine bP rfl (gK ?_);exact ae (rfl)
       .refine bP rfl (ru ?_);exact ae (rfl)
     .refine bP rfl (ru ?_);exact ae (rfl)
   .refine bP rfl (ru ?_);exact ae (rfl)
 .refine bP rfl (ru ?_);refine ap (f:=λr=>[.b r]) ?_ λw8=> ?_
  .refine bW ?_ ?_
   .exact ae (rfl)
   .exact ae (rfl)
  .refine ar (fO (bo ?_));refine cu ?_ ?_
   .refine FY (uX rfl (uX rfl rfl)) ?_;exact ae (rfl)
   .exact ae (rfl)
instance awx (a:cg) (a1:Int) (a2:Int):Es (CU a a1 a2) (HV [kf a,.i .i64 a1,.i .i64 a2]) (λr=> .cw [kf r.1,.i .i64 r.2]):=⟨by
 unfold CU;delta HV;conv=>arg 2;whnf
 refine ap (f:=λr=>[.b r]) ?_ λw=> ?_
 .exact sm
 .conv=>arg 2;whnf
  refine gY ?_ ?_
  .exact sm
  .conv=>arg 2;whnf
   refine oO (Vc a a1) λrA=> ?_;conv=>arg 2;whnf
   refine gY ?_ ?_
   .exact sm
   .conv=>arg 2;whnf
    first|refine cf ?_|refine gj ?_ ?_
    .exact sm
    .conv=>arg 2;whnf
     refine ap (dq (λr=>[.list (r.1.map bQ),.b r.2.1,.i .i64 r.2.2]) (λr=>(2,[.list (r.1.map bQ),.b r.2])) λst=> ?_) λw1=> ?_
     .unfold wE;conv=>arg 2;whnf
      first|refine cf ?_|refine gj ?_ ?_
      .conv=>arg 2;whnf
       refine ap (f:=λr=>[.b r]) ?_ λw2=> ?_
       .exact sm
       .conv=>arg 2;whnf
        refine ap (f:=(λr=>(0,[.list (r.1.map bQ),.b r.2]))) ?_ λw3=> ?_
        .exact sm
        .exact sm
      .exact sm
     .conv=>arg 2;whnf
      refine ap (f:=(λr=>(0,[.list (r.map bQ)]))) ?_ λw4=> ?_
      .exact sm
      .exact sm⟩
instance ata (b:cg) (id:Int):Es (zt b id) (Ew [kf b,.i .i64 id]) (λr=> .cw [kf r.1,.i .i64 r.2]):=⟨by
 unfold zt;delta Ew;conv=>arg 2;whnf
 refine oO (Vc b id) λrA=> ?_;conv=>arg 2;whnf
 refine gY ?_ ?_
 .exact sm
 .conv=>arg 2;whnf
  refine ap (dq (λr=>[.list (r.1.map bQ),.i .i64 r.2]) (λr=>(2,[.list (r.map bQ)])) λst=> ?_) λw=> ?_
  .unfold tK;conv=>arg 2;whnf
   first|refine cf ?_|refine gj ?_ ?_
   .conv=>arg 2;whnf
    refine lR (f:=bQ) λy=> ?_;conv=>arg 2;whnf
    refine ap (f:=(λr=>(0,[.i .i64 r.1,.i .i64 r.2.1,.i .i64 r.2.2]))) ?_ λw1=> ?_
    .exact sm
    .exact sm
   .exact sm
  .exact sm⟩
instance atb (b:cg) (id:Int):Es (zu b id) (Ex [kf b,.i .i64 id]) (λr=> .cw [kf r.1,.i .i64 r.2]):=⟨by unfold zu;delta Ex;exact sm⟩
instance ai1 (sA:bm) (owner:Int):Es (zw sA owner) (HW [db sA,.i .i64 owner]) (λr=> .cw [db r.1,.list (r.2.map MV.s)]):=⟨by unfold zw;delta HW;exact sm⟩
instance atc (sA:bm) (ids:List Int):Es (vD sA ids) (Ey [db sA,.list (ids.map (MV.i .i64))]) (λr=> .cw [db r.1,.list (r.2.map e8)]):=⟨by
 unfold vD;delta Ey;conv=>arg 2;whnf
 refine ap (dq (λr=>[.list (r.1.map cM),.list (r.2.1.map e8),.i .i64 r.2.2]) (λr=>(2,[.list (r.1.map cM),.list (r.2.map e8)])) λst=> ?_) λw=> ?_
 .unfold tU;conv=>arg 2;whnf
  first|refine cf ?_|refine gj ?_ ?_
  .conv=>arg 2;whnf
   refine lR (f:=(MV.i .i64)) λy=> ?_;conv=>arg 2;whnf
   refine oO (ai1 (⟨st.1⟩:bm) y) λrA=> ?_;conv=>arg 2;whnf
   refine ap (dq (λr=>[.list (r.1.map e8),.i .i64 r.2]) (λr=>(4,[.list (r.map e8)])) λaZ=> ?_) λw1=> ?_
   .unfold tT;exact sm
   .exact sm
  .exact sm
 .exact sm⟩
instance awy (b:cg) (now:Int):Es (CV b now) (HX [kf b,.i .i64 now]) (λr=> .cw [kf r.1,.list (r.2.1.map (MV.i .i64)),.i .i64 r.2.2]):=⟨by
 unfold CV;delta HX;conv=>arg 2;whnf
 first|refine cf ?_|refine gj ?_ ?_
 .exact sm
 .conv=>arg 2;whnf
  first|refine cf ?_|refine gj ?_ ?_
  .exact sm
  .conv=>arg 2;whnf
   refine ap (dq (λr=>[.list (r.1.map bQ),.list (r.2.1.map (MV.i .i64)),.i .i64 r.2.2]) (λr=>(2,[.list (r.1.map bQ),.list (r.2.map (MV.i .i64))])) λst=> ?_) λw=> ?_
   .unfold wF;conv=>arg 2;whnf
    first|refine cf ?_|refine gj ?_ ?_
    .conv=>arg 2;whnf
     refine lR (f:=bQ) λy=> ?_;conv=>arg 2;whnf
     refine ap (f:=(λr=>(0,[.list (r.1.map bQ),.list (r.2.map (MV.i .i64))]))) ?_ λw1=> ?_
     .exact sm
     .exact sm
    .exact sm
   .exact sm⟩
instance am1 (lA:List aR) (w:aR):Es (Ee lA w) (Mt [.list (lA.map ec),ec w]) MV.b:=⟨by unfold Ee;delta Mt;exact sm⟩
instance am2 (t:dS) (w:aR):Es (HC t w) (Mu [tC t,ec w]) (λr=> .cw [tC r.1,.i .i64 r.2]):=⟨by
 unfold HC;delta Mu;conv=>arg 2;whnf
 refine oO (Kg w.Path) λrA=> ?_;conv=>arg 2;whnf
 refine gY ?_ ?_
 .exact sm
 .conv=>arg 2;whnf
  first|refine cf ?_|refine gj ?_ ?_
  .exact sm
  .conv=>arg 2;whnf
   refine oO (am1 t.L w) λaO=> ?_;conv=>arg 2;whnf
   refine gY ?_ ?_
   .exact sm
   .conv=>arg 2;whnf
    first|refine cf ?_|refine gj ?_ ?_
    .exact sm
    .conv=>arg 2;whnf
     refine bP (et (rfl:_=afE ec t.L) λ_=>rfl) ?_;exact sm⟩
instance ai2 (a:bu) (a1:aJ):Es (zx a a1) (Dq [dc a,ct a1]) (λr=> .cw [dc r.1,bX r.2.1,.list (r.2.2.map e8)]):=⟨by
 unfold zx;delta Dq;conv=>arg 2;whnf
 refine ap (f:=(λr=>(0,[.b r]))) ?_ λw=> ?_
 .exact sm
 .conv=>arg 2;whnf
  refine gY ?_ ?_
  .conv=>arg 2;whnf
   refine kr (Yb a a1) λrA=> ?_;exact sm
  .conv=>arg 2;whnf
   refine ap (f:=(λr=>(0,(v2 r)))) ?_ λw4=> ?_
   .conv=>arg 2;whnf
    first|refine cf ?_|refine gj ?_ ?_
    .exact sm
    .conv=>arg 2;whnf
     refine ap (f:=(λr=>(0,(v2 r)))) ?_ λw5=> ?_
     .conv=>arg 2;whnf
      first|refine cf ?_|refine gj ?_ ?_
      .exact sm
      .conv=>arg 2;whnf
       refine ap (f:=(λr=>(0,(v2 r)))) ?_ λw6=> ?_
       .conv=>arg 2;whnf
        first|refine cf ?_|refine gj ?_ ?_
        .exact sm
        .conv=>arg 2;whnf
         refine ap (f:=(λr=>(0,(v2 r)))) ?_ λw8=> ?_
         .conv=>arg 2;whnf
          first|refine cf ?_|refine gj ?_ ?_
          .exact sm
          .conv=>arg 2;whnf
           refine ap (f:=(λr=>(0,[.b r]))) ?_ λw10=> ?_
           .exact sm
           .conv=>arg 2;whnf
            refine ap (f:=(λr=>(0,(v4 r)))) ?_ λw11=> ?_
            .conv=>arg 2;whnf
             refine gY ?_ ?_
             .conv=>arg 2;whnf
              refine oO (am2 a.aD (⟨a1.Path,a1.Client,decide (a1.Kind=11)⟩:aR)) λBN=> ?_;exact sm
             .exact sm
            .exact sm
         .exact sm
       .exact sm
     .exact sm
   .exact sm⟩
instance apd (c:bh) (w:aR):Es (tV c w) (yq [e8 c,ec w]) MV.b:=⟨by unfold tV;delta yq;exact sm⟩
instance ai3 (t:dS) (lA:List bh):Es (wG t lA) (Ds [tC t,.list (lA.map e8)]) (λr=> .cw [tC r.1,.list (r.2.map nz)]):=⟨by
 unfold wG;delta Ds;conv=>arg 2;whnf
 refine bP (et (rfl:_=afE ec t.L) λ_=>rfl) ?_;exact sm⟩
instance ai4 (lA:List ay) (x:ay):Es (wH lA x) (Dt [.list (lA.map bX),bX x]) (FW bX):=⟨by unfold wH;delta Dt;exact sm⟩
def aeu (a:bu)(a1:aJ):Sm (λr=> .cw [dc r.1,bX r.2.1,.list (r.2.2.map nz)]) (Ez (dc a) (ct a1)) (zy a a1):=by
 unfold Ez zy;refine da (rr (da (sP ?_)));refine ap (amZ a1).h λrA=> ?_;refine fO ?_;refine cu ?_ ?_
 .refine FY (uX rfl rfl) ?_;exact ae (rfl)
 .refine ap (aiY a a1.Client).h λaO=> ?_;refine ox (ar (da (gK (ar (fO (bo ?_))))));refine ap (f:=λr=>[.b r]) ?_ λw=> ?_
  .refine cu ?_ ?_
   .exact ae (rfl)
   .exact ae (rfl)
  .refine ar (fO (bo ?_));refine cu ?_ ?_
   .exact ae (rfl)
   .refine ap (f:=λr=>[.b r]) ?_ λw1=> ?_
    .refine cu ?_ ?_
     .exact ae (rfl)
     .exact ae (rfl)
    .refine ar (fO (bo ?_));refine cu ?_ ?_
     .refine FY (uX rfl rfl) ?_;exact ae (rfl)
     .refine ap (f:=λr=>[.b r]) ?_ λw2=> ?_
      .refine cu ?_ ?_
       .refine bJ (n:=a.Seen.length) (by simp only [bD,sh,AI]) ?_;exact ae (rfl)
       .exact ae (rfl)
      .refine ar (fO (bo ?_));refine cu ?_ ?_
       .exact ae (rfl)
       .refine ap (ai2 a a1).h λbK=> ?_;refine ox (ar (da (rr (ar (da (gK (ar (bF (bo ?_)))))))));refine ap (ai3 bK.1.aD bK.2.2).h λgQ=> ?_;refine ox (ar (da (ar (bF (bo (ar (bF (bo ?_))))))));refine ap (ai4 a.Seen (⟨a1.Client,a1.Seq,bK.2.1.E,bK.2.1.Value,bK.2.1.Version,bK.2.1.Names⟩:ay)).h λn6=> ?_;refine bF ?_;exact ae (rfl)
instance ai5 (rA:bu) (lA:List aJ):Es (CW rA lA) (Du [dc rA,.list (lA.map ct)]) (λr=> .cw [dc r.1,.list (r.2.1.map bX),.list (r.2.2.map nz)]):=⟨by
 unfold CW;delta Du;conv=>arg 2;whnf
 refine ap (dq (λr=>[.list (r.1.map cM),.i .i64 r.2.1,.list (r.2.2.1.map bQ),.list (r.2.2.2.1.map ec),.list (r.2.2.2.2.1.map bX),.list (r.2.2.2.2.2.1.map bX),.list (r.2.2.2.2.2.2.1.map nz),.i .i64 r.2.2.2.2.2.2.2]) (λr=>(2,[.list (r.1.map cM),.i .i64 r.2.1,.list (r.2.2.1.map bQ),.list (r.2.2.2.1.map ec),.list (r.2.2.2.2.1.map bX),.list (r.2.2.2.2.2.1.map bX),.list (r.2.2.2.2.2.2.map nz)])) λst=> ?_) λw=> ?_
 .unfold wI;conv=>arg 2;whnf
  first|refine cf ?_|refine gj ?_ ?_
  .conv=>arg 2;whnf
   refine lR (f:=ct) λy=> ?_;conv=>arg 2;whnf
   refine kr (aeu (⟨(⟨st.1⟩:bm),(⟨st.2.1,st.2.2.1⟩:cg),(⟨st.2.2.2.1⟩:dS),st.2.2.2.2.1⟩:bu) y) λn7=> ?_;conv=>arg 2;whnf
   first|refine cf ?_|refine CL ?_
   conv=>arg 2;whnf
   refine bP (et (rfl:_=afE nz n7.2.2) λ_=>rfl) ?_;exact sm
  .exact sm
 .exact sm⟩
instance ax2:Es (Ul) (Mx []) db:=⟨by unfold Ul;delta Mx;exact sm⟩
instance am3:Es (Mn) (HZ []) dc:=⟨by unfold Mn;delta HZ;exact sm⟩
instance Vd (lA:List aa):Es (yf lA) (Bu [.list (lA.map aQ)]) (FW ct):=⟨by
 unfold yf;delta Bu;conv=>arg 2;whnf
 refine ap (dq (λr=>[.list (r.1.map ct),.i .i64 r.2]) (λr=>(2,[.list (r.map ct)])) λst=> ?_) λw=> ?_
 .unfold Ef;exact sm
 .exact sm⟩
instance Yc (b:List Int):Es (wK b) (H0 [.list (b.map (MV.i .u8))]) (λr=> .cw [.i .u64 r.1,.list (r.2.1.map (MV.i .u8)),.i .i64 r.2.2]):=⟨by
 unfold wK;delta H0;conv=>arg 2;whnf
 first|refine cf ?_|refine gj ?_ ?_
 .exact sm
 .conv=>arg 2;whnf
  refine lR (f:=(MV.i .u8)) λy=> ?_;conv=>arg 2;whnf
  refine ap (f:=λr=>[.b r]) ?_ λw=> ?_
  .conv=>arg 2;whnf
   first|refine cf ?_|refine gj ?_ ?_
   .exact sm
   .conv=>arg 2;whnf
    first|refine cf ?_|refine gj ?_ ?_
    .conv=>arg 2;whnf
     first|refine cf ?_|refine gj ?_ ?_
     .conv=>arg 2;whnf
      refine lR (f:=(MV.i .u8)) λy1=> ?_;exact sm
     .exact sm
    .exact sm
  .conv=>arg 2;whnf
   refine gY ?_ ?_
   .exact sm
   .conv=>arg 2;whnf
    first|refine cf ?_|refine gj ?_ ?_
    .exact sm
    .conv=>arg 2;whnf
     refine ap (dq (λr=>[.i .u64 r.1,.i .i64 r.2]) (λr=>(2,[.i .u64 r])) λst=> ?_) λw1=> ?_
     .unfold wJ;conv=>arg 2;whnf
      first|refine cf ?_|refine gj ?_ ?_
      .conv=>arg 2;whnf
       refine lR (f:=(MV.i .u8)) λy2=> ?_;exact sm
      .exact sm
     .conv=>arg 2;whnf
      refine bP (et (rfl:_=afE (MV.i .u8) b) λ_=>rfl) ?_;exact sm⟩
instance ape (b:List Int):Es (tW b) (yr [.list (b.map (MV.i .u8))]) (λr=> .cw [.i .i64 r.1,.list (r.2.1.map (MV.i .u8)),.i .i64 r.2.2]):=⟨by unfold tW;delta yr;exact sm⟩
instance ai6 (b:List Int) (many:Int):Es (HD b many) (H2 [.list (b.map (MV.i .u8)),.i .i64 many]) (λr=> .cw [.list (r.1.map (MV.i .i64)),.list (r.2.1.map (MV.i .u8)),.i .i64 r.2.2]):=⟨by
 unfold HD;delta H2;conv=>arg 2;whnf
 refine ap (dq (λr=>[.list (r.1.map (MV.i .u8)),.list (r.2.1.map (MV.i .i64)),.i .i64 r.2.2]) (ait (λr=>(2,[.list (r.1.map (MV.i .u8)),.list (r.2.map (MV.i .i64))])) (λr=>(1,[.list (r.1.map (MV.i .i64)),.list (r.2.1.map (MV.i .u8)),.i .i64 r.2.2]))) λst=> ?_) λw=> ?_
 .unfold sC;exact sm
 .rcases w with p1|p2
  .exact sm
  .exact sm⟩
instance Ip (b:List Int) (most:Int):Es (oe b most) (vq [.list (b.map (MV.i .u8)),.i .i64 most]) (λr=> .cw [.s r.1,.list (r.2.1.map (MV.i .u8)),.i .i64 r.2.2]):=⟨by
 unfold oe;delta vq;conv=>arg 2;whnf
 refine oO (Yc b) λrA=> ?_;conv=>arg 2;whnf
 refine gY ?_ ?_
 .exact sm
 .conv=>arg 2;whnf
  first|refine cf ?_|refine gj ?_ ?_
  .exact sm
  .conv=>arg 2;whnf
   first|refine cf ?_|refine gj ?_ ?_
   .exact sm
   .conv=>arg 2;whnf
    first|refine cf ?_|refine CL ?_
    conv=>arg 2;whnf
    refine ZV (M:=aec (AS 0) (aeY (AS rA.1) rA.2.1)) ((by simp only [pk,afN,ab2,afw,afz,aft,afu,afC])) λbs=> ?_;conv=>arg 2;whnf
    refine bP (et (rfl:_=afE (MV.i .u8) rA.2.1) λ_=>rfl) ?_;exact sm⟩
instance awz (a:List Int):Es (CX a) (H3 [.list (a.map (MV.i .u8))]) (λr=> .cw [ct r.1,.list (r.2.1.map (MV.i .u8)),.i .i64 r.2.2]):=⟨by
 unfold CX;delta H3;conv=>arg 2;whnf
 refine oO (ai6 a 6) λrA=> ?_;conv=>arg 2;whnf
 refine gY ?_ ?_
 .exact sm
 .conv=>arg 2;whnf
  refine oO (Ip rA.2.1 100) λaO=> ?_;conv=>arg 2;whnf
  refine gY ?_ ?_
  .exact sm
  .conv=>arg 2;whnf
   refine oO (Ip aO.2.1 1000) λbK=> ?_;conv=>arg 2;whnf
   refine gY ?_ ?_
   .exact sm
   .conv=>arg 2;whnf
    refine lR (f:=(MV.i .i64)) λy=> ?_;conv=>arg 2;whnf
    refine lR (f:=(MV.i .i64)) λy1=> ?_;conv=>arg 2;whnf
    refine lR (f:=(MV.i .i64)) λy2=> ?_;conv=>arg 2;whnf
    refine lR (f:=(MV.i .i64)) λy3=> ?_;conv=>arg 2;whnf
    refine lR (f:=(MV.i .i64)) λy4=> ?_;conv=>arg 2;whnf
    refine lR (f:=(MV.i .i64)) λy5=> ?_;exact sm⟩
instance ar3 (sA:List UInt8):Es (wL sA) (Bw [.s sA]) (λr=> .cw [.list (r.1.map ct),.i .i64 r.2]):=⟨by
 unfold wL;delta Bw;conv=>arg 2;whnf
 refine oO (Yc (sq sA)) λrA=> ?_;conv=>arg 2;whnf
 refine ap (f:=λr=>[.b r]) ?_ λw=> ?_
 .exact sm
 .conv=>arg 2;whnf
  refine gY ?_ ?_
  .exact sm
  .conv=>arg 2;whnf
   refine ap (dq (λr=>[.list (r.1.map (MV.i .u8)),.list (r.2.1.map ct),.i .u64 r.2.2]) (ait (λr=>(2,[.list (r.1.map (MV.i .u8)),.list (r.2.map ct)])) (λr=>(1,[.list (r.1.map ct),.i .i64 r.2]))) λst=> ?_) λw1=> ?_
   .unfold oh;exact sm
   .rcases w1 with p1|p2
    .exact sm
    .exact sm⟩
instance aev (rA:bu) (sA:List UInt8):Es (vE rA sA) (zQ [dc rA,.s sA]) (λr=> .cw [dc r.1,.list (r.2.1.map bX),.i .i64 r.2.2]):=⟨by unfold vE;delta zQ;exact sm⟩
instance ai7 (a:List aJ) (b:List aJ):Es (zB a b) (Dw [.list (a.map ct),.list (b.map ct)]) MV.b:=⟨by unfold zB;delta Dw;exact sm⟩
instance L5 (x:aa) (c:aa):Es (jK x c) (mb [aQ x,.rp [.i .i64 c.Client,.i .i64 c.Seq,.i .i64 c.Kind,.s c.Path,.s c.Value,.i .i64 c.Version,.i .i64 c.Session,.i .i64 c.Span]]) MV.b:=⟨by unfold jK;delta mb;exact sm⟩
def xn (sA:List aa)(f:aa->Option Bool){yV:Nat}{qX:List MV}(YY:gv yV=false)(iv: ∀(u0:aa),Sm MV.b (eB yV ([aQ u0]++qX)) (f u0)):Sm (MV.i .i64) (fc (.list (sA.map aQ)) (.func yV qX)) (jj sA f):=by
 unfold fc jj;refine bF (FX (bJ (n:=sA.length) (by simp only [bD,sh,AI]) ?_));refine ap (dy (λr=>[.i .i64 r]) (ait (λr=>(2,[])) (λr=>(1,[.i .i64 r]))) (rfl) λst=> ?_) λw=> ?_
 .unfold ir;refine ar (aH (bo ?_));refine bW ?_ ?_
  .refine dJ (f:=aQ) (rfl) λy=> ?_;refine da (sP (yI (bP (by rw [YY];rfl) ?_)));refine ap (iv y) λrA=> ?_;refine fO ?_;refine cu ?_ ?_
   .exact ae (rfl)
   .exact ae (rfl)
  .exact ae (rfl)
 .rcases w with p1|p2
  .refine TW rfl (bo ?_);exact ae (rfl)
  .refine TX rfl (bP rfl (ar (aH (bo ?_))));exact ae (rfl)
def ui (sA:List aa)(f:aa->Option Bool){yV:Nat}{qX:List MV}(YY:gv yV=false)(iv: ∀(u0:aa),Sm MV.b (eB yV ([aQ u0]++qX)) (f u0)):Sm MV.b (eg [.list (sA.map aQ),.func yV qX]) (ef sA f):=by
 unfold ef;delta eg;conv=>arg 2;whnf
 refine kr (xn sA f YY iv) λrA=> ?_;exact sm
instance Rj (rA:aj) (lA:List aa):Es (oZ rA lA) (o9 [c8 rA,.list (lA.map aQ)]) (FW aQ):=⟨by
 unfold oZ;delta o9;conv=>arg 2;whnf
 refine ap (dq (λr=>[.list (r.1.map aQ),.i .i64 r.2]) (λr=>(2,[.list (r.map aQ)])) λst=> ?_) λw=> ?_
 .unfold pu;conv=>arg 2;whnf
  first|refine cf ?_|refine gj ?_ ?_
  .conv=>arg 2;whnf
   refine lR (f:=aQ) λy=> ?_;conv=>arg 2;whnf
   refine oO (PG rA y.Client) λaO=> ?_;conv=>arg 2;whnf
   refine kr (ui st.1 (λu=>jK u y) (yV:=29) (qX:=[.rp [.i .i64 y.Client,.i .i64 y.Seq,.i .i64 y.Kind,.s y.Path,.s y.Value,.i .i64 y.Version,.i .i64 y.Session,.i .i64 y.Span]]) rfl (λu1=>Sm.at (mc _ _) (L5 u1 y).h)) λbK=> ?_;conv=>arg 2;whnf
   refine ap (f:=λr=>[.b r]) ?_ λw1=> ?_
   .conv=>arg 2;whnf
    refine gY ?_ ?_
    .conv=>arg 2;whnf
     refine kr (J9 y) λgQ=> ?_;exact sm
    .exact sm
   .exact sm
  .exact sm
 .exact sm⟩
instance atd (rA:bu) (o:aJ):Es (zC rA o) (EA [dc rA,ct o]) MV.b:=⟨by unfold zC;delta EA;exact sm⟩
instance Yd (rA:bu) (lA:List aJ):Es (ua rA lA) (ug [dc rA,.list (lA.map ct)]) (FW ct):=⟨by unfold ua;delta ug;exact sm⟩
instance apf (a:List (List UInt8)) (b:List (List UInt8)):Es (ub a b) (yt [.list (a.map MV.s),.list (b.map MV.s)]) MV.b:=⟨by unfold ub;delta yt;exact sm⟩
instance ai8 (a:ay) (b:ay):Es (CY a b) (Dz [bX a,bX b]) MV.b:=⟨by unfold CY;delta Dz;exact sm⟩
def Iq (x:Int)(k:Int):Sm (MV.i .u32) (mN (.i .u32 x) (.i .i64 k)) (mI x k):=by unfold mN mI;refine aH (aH (aL (aL ?_)));exact ae (rfl)
instance iC (x:Int) (k:Int):Es (cB x k) (eL [.i .u32 x,.i .i64 k]) (MV.i .u32):=⟨by
 unfold cB;delta eL;conv=>arg 2;whnf
 refine kr (Iq x (AT .i64 (0-k))) λrA=> ?_;exact sm⟩
def Ye (b:List Int):Sm (MV.i .u32) (DA (.list (b.map (MV.i .u8)))) (HE b):=by unfold DA HE;refine bF ?_;refine dJ (f:=(MV.i .u8)) (rfl) λy=> ?_;refine aH (aL ?_);refine dJ (f:=(MV.i .u8)) (rfl) λy1=> ?_;refine aH (aL ?_);refine dJ (f:=(MV.i .u8)) (rfl) λy2=> ?_;refine aH (aL ?_);refine dJ (f:=(MV.i .u8)) (rfl) λy3=> ?_;refine aH ?_;exact ae (rfl)
def Ir (b:List Int):Sm (MV.h .u32 62) (oq (.list (b.map (MV.i .u8)))) (ol b):=by
 unfold oq ol;refine bF ?_;refine ap (dy (λr=>[.h .u32 62 r.1,.i .i64 r.2]) (λr=>(2,[.h .u32 62 r])) (rfl) λst=> ?_) λw=> ?_
 .unfold jk;refine ar (fB (ar (aH (bo ?_))));refine bW ?_ ?_
  .refine bP (et (rfl:_=afE (MV.i .u8) b) λ_=>rfl) (bJ (n:=b.length) (by simp only [bD,sh,AI]) (aL ?_));refine ap (by first|(simpa using Ye (aec (AS (AT .i64 (4 *st.2))) (aeY (AS (b.length:Int)) b));done)|(have hq:=Ye (aec (AS (AT .i64 (4 *st.2))) (aeY (AS (b.length:Int)) b));simp only [afu,aft] at hq;exact hq)) λrA=> ?_;refine aH (aL ?_);exact ae (rfl)
  .exact ae (rfl)
 .refine bP rfl (ar (fB (bo ?_)));refine ap (dy (λr=>[.h .u32 62 r.1,.i .i64 r.2]) (λr=>(4,[.h .u32 62 r])) (rfl) λaZ=> ?_) λw3=> ?_
  .unfold jm;refine ar (fB (ar (aH (bo ?_))));refine bW ?_ ?_
   .refine aL (aL ?_);refine ap (iC (aZ.1.getD (AS (AT .i64 (aZ.2-15))) 0) 7).h λaO=> ?_;refine aH ?_;refine ap (iC (aZ.1.getD (AS (AT .i64 (aZ.2-15))) 0) 18).h λbK=> ?_;refine aH (aL ?_);refine ap (iC (aZ.1.getD (AS (AT .i64 (aZ.2-2))) 0) 17).h λgQ=> ?_;refine aH ?_;refine ap (iC (aZ.1.getD (AS (AT .i64 (aZ.2-2))) 0) 19).h λn6=> ?_;refine aH (aL (aL (aL (aL ?_))));exact ae (rfl)
   .exact ae (rfl)
  .refine bP rfl (ar (fB (bo ?_)));exact ae (rfl)
instance Sx:Es (zD) (vJ []) (λx:List Int=>MV.rp [.h .u32 62 x]):=⟨by unfold zD;delta vJ;exact sm⟩
def Yf (out:List Int)(n:Int)(long:Int):Sm (CJ (MV.i .u8)) (zR (.fresh (out.map (MV.i .u8))) (.i .u64 n) (.i .i64 long)) (zE out n long):=by
 unfold zR zE;refine Fu (aH (aH ?_));refine ap (dy (λr=>[.list (r.1.map (MV.i .u8)),.i .i64 r.2]) (λr=>(2,[.list (r.map (MV.i .u8))])) (rfl) λst=> ?_) λw=> ?_
 .unfold sD;refine DD ?_;refine bW ?_ ?_
  .refine aL (bJ (n:=st.1.length) (by simp only [bD,sh,AI]) (bJ (n:=([AT .u8 (ajW n (2^min (AS (AT .i64 (8 *st.2))) (afx .u64)))]:List Int).length) (by simp only [bD,sh,AI]) (aL ?_)));exact ae abu
  .exact ae (rfl)
 .refine bP rfl (ar (bF (bo ?_)));exact ae (rfl)
def am4 (n:Int):Sm (FW (MV.i .u8)) (H5 (.i .i64 n)) (HF n):=by unfold H5 HF;refine aH (Ml (Ml (aL ?_)));refine dJ (f:=(MV.i .u8)) (by simp only [pk,afN,ab2,afw,afz,aft,afu,afC]) λy=> ?_;refine aH ?_;refine ap (by simpa using Yf ((agN (AS (AT .i64 (1+(Int.tmod (AT .i64 (119-(Int.tmod (imax n 0) 64))) 64)))) (0:Int)).set (AS 0) 128) (AT .u64 ((AT .u64 (imax n 0)) *8)) 8) λrA=> ?_;refine Fu ?_;exact ae (rfl)
def aew:Sm (MV.h .u32 6) (zS) (Eg):=by unfold zS Eg;exact ae (rfl)
instance fj (w:bM) (lA:List Int):Es (cF w lA) (cJ [.cell (.func 0 (oX w)),.list (lA.map (MV.i .i64))]) (λr=> .eH ((λ_=> .cw []) r.1) (oX r.2)):=⟨by
 unfold cF;delta cJ;conv=>arg 2;whnf
 refine ap (dq (λr=>[.i .i64 r.1,.list (r.2.map (MV.i .u8))]) (λr=>(2,[.list (r.map (MV.i .u8))])) λst=> ?_) λw1=> ?_
 .unfold iB;conv=>arg 2;whnf
  first|refine cf ?_|refine gj ?_ ?_
  .conv=>arg 2;whnf
   refine lR (f:=(MV.i .i64)) λy=> ?_;exact sm
  .exact sm
 .exact sm⟩
instance xp (w:bM) (lA:List (List UInt8)):Es (ga w lA) (gd [.cell (.func 0 (oX w)),.list (lA.map MV.s)]) (λr=> .eH ((λ_=> .cw []) r.1) (oX r.2)):=⟨by unfold ga;delta gd;exact sm⟩
instance aaA (isA:Bool):Es (wM isA) (xj [.b isA]) (MV.i .i64):=⟨by unfold wM;delta xj;exact sm⟩
instance ar4 (b:List Int) (lA:List (List UInt8)):Es (wN b lA) (BA [.list (b.map (MV.i .u8)),.list (lA.map MV.s)]) (CJ (MV.i .u8)):=⟨by unfold wN;delta BA;exact sm⟩
instance PL (b:List Int) (rA:ah):Es (nF b rA) (nS [.list (b.map (MV.i .u8)),aU rA]) (FW (MV.i .u8)):=⟨by unfold nF;delta nS;exact sm⟩
theorem aaB (a:aj):Sm (FW (MV.i .u8)) (BB (c8 a)) (wO a):=by
 unfold BB wO;refine da (rr (bJ (n:=a.Shelf.L.length) (by simp only [bD,sh,AI]) ?_));refine ap (fj (⟨([]:List Int)⟩:bM) ([(a.Shelf.L.length:Int)]:List Int)).h λrA=> ?_;refine xY (ar (bF (bo (bJ (n:=a.Shelf.L.length) (by simp only [bD,sh,AI]) ?_))));refine ap (dy (λr=>[.list (r.1.map (MV.i .u8)),.i .i64 r.2]) (λr=>(2,[.list (r.map (MV.i .u8))])) (rfl) λst=> ?_) λw=> ?_
 .unfold qJ;refine DD ?_;refine bW ?_ ?_
  .refine dJ (f:=bE) (rfl) λy=> ?_;refine da (J7 ?_);refine ap (xp (⟨st.1⟩:bM) ([y.Path,y.Value]:List (List UInt8))).h λaO=> ?_;refine xY (ar (bF (bo ?_)));refine ap (fj aO.2 ([y.Version,y.dt]:List Int)).h λbK=> ?_;refine xY (ar (bF (bo ?_)));exact ae (rfl)
  .exact ae (rfl)
 .refine bP rfl (ar (bF (bo (bJ (n:=a.aE.L.length) (by simp only [bD,sh,AI]) ?_))));refine ap (fj (⟨w⟩:bM) ([a.aE.eh,(a.aE.L.length:Int)]:List Int)).h λgQ=> ?_;refine xY (ar (bF (bo (bJ (n:=a.aE.L.length) (by simp only [bD,sh,AI]) ?_))));refine ap (dy (λr=>[.list (r.1.map (MV.i .u8)),.i .i64 r.2]) (λr=>(4,[.list (r.map (MV.i .u8))])) (rfl) λaZ=> ?_) λw1=> ?_
  .unfold qK;refine DD ?_;refine bW ?_ ?_
   .refine dJ (f:=bq) (rfl) λy1=> ?_;refine da (PF ?_);refine ap (fj (⟨aZ.1⟩:bM) ([y1.Id,y1.Span,y1.kG]:List Int)).h λn6=> ?_;refine xY (ar (bF (bo ?_)));exact ae (rfl)
   .exact ae (rfl)
  .refine bP rfl (ar (bF (bo (bJ (n:=a.aD.L.length) (by simp only [bD,sh,AI]) ?_))));refine ap (fj (⟨w1⟩:bM) ([(a.aD.L.length:Int)]:List Int)).h λrH=> ?_;refine xY (ar (bF (bo (bJ (n:=a.aD.L.length) (by simp only [bD,sh,AI]) ?_))));refine ap (dy (λr=>[.list (r.1.map (MV.i .u8)),.i .i64 r.2]) (λr=>(6,[.list (r.map (MV.i .u8))])) (rfl) λeG=> ?_) λw2=> ?_
   .unfold qL;refine DD ?_;refine bW ?_ ?_
    .refine dJ (f:=bA) (rfl) λy2=> ?_;refine da (ao7 ?_);refine ap (xp (⟨eG.1⟩:bM) ([y2.Path]:List (List UInt8))).h λn7=> ?_;refine xY (ar (bF (bo ?_)));refine ap (aaA y2.Kids).h λBN=> ?_;refine aH ?_;refine ap (fj n7.2 ([y2.Client,BN]:List Int)).h λHz=> ?_;refine xY (ar (bF (bo ?_)));exact ae (rfl)
    .exact ae (rfl)
   .refine bP rfl (ar (bF (bo (bJ (n:=a.Seen.length) (by simp only [bD,sh,AI]) ?_))));refine ap (fj (⟨w2⟩:bM) ([(a.Seen.length:Int)]:List Int)).h λQq=> ?_;refine xY (ar (bF (bo (bJ (n:=a.Seen.length) (by simp only [bD,sh,AI]) ?_))));refine ap (dy (λr=>[.list (r.1.map (MV.i .u8)),.i .i64 r.2]) (λr=>(8,[.list (r.map (MV.i .u8))])) (rfl) λmr=> ?_) λw3=> ?_
    .unfold qM;refine DD ?_;refine bW ?_ ?_
     .refine dJ (f:=aU) (rfl) λy3=> ?_;refine da (gK ?_);refine ap (PL mr.1 y3).h λB6=> ?_;refine bF ?_;exact ae (rfl)
     .exact ae (rfl)
    .refine bP rfl (ar (bF (bo ?_)));exact ae (rfl)
instance am5 (n:Int):Es (HG n) (My [.i .i64 n]) (FW (MV.i .u8)):=⟨by
 unfold HG;delta My;conv=>arg 2;whnf
 refine ap (dq (λr=>[.list (r.map (MV.i .u8))]) (λr=>(2,[.list (r.map (MV.i .u8))])) λst=> ?_) λw=> ?_
 .unfold zF;exact sm
 .conv=>arg 2;whnf
  refine ap (dq (λr=>[.list (r.1.map (MV.i .u8)),.i .i64 r.2]) (λr=>(4,[.list (r.map (MV.i .u8))])) λaZ=> ?_) λw1=> ?_
  .unfold Js;exact sm
  .exact sm⟩
instance kl (x:Int) (k:Int):Es (b9 x k) (fe [.i .u32 x,.i .i64 k]) (MV.i .u32):=⟨by unfold b9;delta fe;exact sm⟩
def Ve (a:List Int):Sm (λr=> .cw [.h .u32 62 r.1,.i .i64 r.2]) (rk (.list (a.map (MV.i .u8)))) (qN a):=by
 unfold rk qN;refine bF (bJ (n:=a.length) (by simp only [bD,sh,AI]) ?_);refine cu ?_ ?_
 .exact ae (rfl)
 .refine ap (dy (λr=>[.h .u32 62 r.1,.i .i64 r.2]) (λr=>(2,[.h .u32 62 r])) (rfl) λst=> ?_) λw=> ?_
  .unfold kP;refine ar (fB (ar (aH (bo ?_))));refine bW ?_ ?_
   .refine dJ (f:=(MV.i .u8)) (rfl) λy=> ?_;refine aH (aL ?_);refine dJ (f:=(MV.i .u8)) (rfl) λy1=> ?_;refine aH (aL ?_);refine dJ (f:=(MV.i .u8)) (rfl) λy2=> ?_;refine aH (aL ?_);refine dJ (f:=(MV.i .u8)) (rfl) λy3=> ?_;refine aH (aL ?_);exact ae (rfl)
   .exact ae (rfl)
  .refine bP rfl (ar (fB (bo ?_)));refine ap (dy (λr=>[.h .u32 62 r.1,.i .i64 r.2]) (λr=>(4,[.h .u32 62 r])) (rfl) λaZ=> ?_) λw1=> ?_
   .unfold kQ;refine ar (fB (ar (aH (bo ?_))));refine bW ?_ ?_
    .refine aL (aL ?_);refine ap (kl (aZ.1.getD (AS (AT .i64 (aZ.2-15))) 0) 7).h λrA=> ?_;refine aH ?_;refine ap (kl (aZ.1.getD (AS (AT .i64 (aZ.2-15))) 0) 18).h λaO=> ?_;refine aH (aL ?_);refine ap (kl (aZ.1.getD (AS (AT .i64 (aZ.2-2))) 0) 17).h λbK=> ?_;refine aH ?_;refine ap (kl (aZ.1.getD (AS (AT .i64 (aZ.2-2))) 0) 19).h λgQ=> ?_;refine aH (aL (aL (aL (aL ?_))));exact ae (rfl)
    .exact ae (rfl)
   .refine bP rfl (ar (fB (bo ?_)));exact ae (rfl)
instance aaC:Es (AN) (xk []) (MV.h .u32 62):=⟨by unfold AN;delta xk;exact sm⟩
def aex (a:List Int)(a1:List Int):Sm (λr=> .cw [.h .u32 6 r.1,.i .i64 r.2]) (EB (.h .u32 6 a) (.list (a1.map (MV.i .u8)))) (sE a a1):=by
 unfold EB sE;refine fB (bF ?_);refine ap (Ve a1) λrA=> ?_;refine ox (ar (fB (ar (aH (bo ?_)))));refine cu ?_ ?_
 .exact ae (rfl)
 .refine ap (aaC).h λaO=> ?_;refine fB ?_;refine ap (dy (λr=>[.h .u32 6 r.1,.i .i64 r.2]) (λr=>(2,[.h .u32 6 r])) (rfl) λst=> ?_) λw=> ?_
  .unfold nG;refine ar (fB (ar (aH (bo ?_))));refine bW ?_ ?_
   .refine aL (aL (aL ?_));refine ap (kl (st.1.getD (AS 4) 0) 6).h λbK=> ?_;refine aH ?_;refine ap (kl (st.1.getD (AS 4) 0) 11).h λgQ=> ?_;refine aH ?_;refine ap (kl (st.1.getD (AS 4) 0) 25).h λn6=> ?_;refine aH (aL (aL (aL (aL ?_))));refine ap (kl (st.1.getD (AS 0) 0) 2).h λrH=> ?_;refine aH ?_;refine ap (kl (st.1.getD (AS 0) 0) 13).h λn7=> ?_;refine aH ?_;refine ap (kl (st.1.getD (AS 0) 0) 22).h λBN=> ?_;refine aH (aL (aL (aL (aL (aL (aL (aL (aL (aL (aL (aL ?_)))))))))));exact ae (rfl)
   .exact ae (rfl)
  .refine bP rfl (ar (fB (bo ?_)));refine ap (dy (λr=>[.h .u32 6 r.1,.i .i64 r.2]) (λr=>(4,[.h .u32 6 r])) (rfl) λaZ=> ?_) λw1=> ?_
   .unfold CZ;refine ar (fB (ar (aH (bo ?_))));refine bW ?_ ?_
    .refine aL (aL (aL ?_));exact ae (rfl)
    .exact ae (rfl)
   .refine bP rfl (ar (fB (bo ?_)));exact ae (rfl)
instance ax3 (b:List Int):Es (HH b) (Mz [.list (b.map (MV.i .u8))]) (MV.h .u8 30):=⟨by
 unfold HH;delta Mz;conv=>arg 2;whnf
 refine bP (et (rfl:_=afE (MV.i .u8) b) λ_=>rfl) ?_;conv=>arg 2;whnf
 first|refine cf ?_|refine CL ?_
 conv=>arg 2;whnf
 refine oO (am5 (b.length:Int)) λrA=> ?_;conv=>arg 2;whnf
 refine bP (et (rfl:_=afE (MV.i .u8) rA) λ_=>rfl) ?_;conv=>arg 2;whnf
 first|refine cf ?_|refine CL ?_
 conv=>arg 2;whnf
 refine ap (dq (λr=>[.h .u32 6 r.1,.i .i64 r.2]) (λr=>(2,[.h .u32 6 r])) λst=> ?_) λw=> ?_
 .unfold sF;conv=>arg 2;whnf
  first|refine cf ?_|refine gj ?_ ?_
  .conv=>arg 2;whnf
   first|refine cf ?_|refine CL ?_
   conv=>arg 2;whnf
   refine kr (aex st.1 (aec (AS st.2) (aeY (AS (AT .i64 (st.2+64))) ((([]:List Int)++b)++rA)))) λaO=> ?_;exact sm
  .exact sm
 .conv=>arg 2;whnf
  refine ap (dq (λr=>[.h .u8 30 r.1,.i .i64 r.2]) (λr=>(4,[.h .u8 30 r])) λaZ=> ?_) λw1=> ?_
  .exact sm
  .exact sm⟩
instance ai9 (n:Int):Es (C0 n) (H6 [.i .u64 n]) (MV.i .i64):=⟨by
 unfold C0;delta H6;conv=>arg 2;whnf
 refine ap (dq (λr=>[.i .u64 r.1,.i .i64 r.2]) (λr=>(2,[.i .i64 r])) λst=> ?_) λw=> ?_
 .exact sm
 .exact sm⟩
instance ax4 (b:List Int) (n:Int):Es (yg b n) (MA [.list (b.map (MV.i .u8)),.i .u64 n]) (CJ (MV.i .u8)):=⟨by
 unfold yg;delta MA;conv=>arg 2;whnf
 refine bP (et (rfl:_=afE (MV.i .u8) b) λ_=>rfl) ?_;conv=>arg 2;whnf
 first|refine cf ?_|refine CL ?_
 conv=>arg 2;whnf
 refine oO (ai9 n) λrA=> ?_;conv=>arg 2;whnf
 first|refine cf ?_|refine CL ?_
 conv=>arg 2;whnf
 refine ap (dq (λr=>[.list (r.1.map (MV.i .u8)),.i .i64 r.2]) (λr=>(2,[.list (r.map (MV.i .u8))])) λst=> ?_) λw=> ?_
 .unfold zG;conv=>arg 2;whnf
  first|refine cf ?_|refine gj ?_ ?_
  .conv=>arg 2;whnf
   refine ap (dq (λr=>[.i .u64 r.1,.i .i64 r.2]) (λr=>(4,[.i .u64 r])) λaZ=> ?_) λw1=> ?_
   .exact sm
   .exact sm
  .exact sm
 .exact sm⟩
instance ax5 (b:List Int) (n:Int):Es (jz b n) (MB [.list (b.map (MV.i .u8)),.i .i64 n]) (CJ (MV.i .u8)):=⟨by unfold jz;delta MB;exact sm⟩
instance awA (b:List Int) (sA:List UInt8):Es (qO b sA) (H7 [.list (b.map (MV.i .u8)),.s sA]) (CJ (MV.i .u8)):=⟨by unfold qO;delta H7;exact sm⟩
instance awB (b:List Int) (lA:List (List UInt8)):Es (C1 b lA) (H8 [.list (b.map (MV.i .u8)),.list (lA.map MV.s)]) (CJ (MV.i .u8)):=⟨by unfold C1;delta H8;exact sm⟩
instance am6 (b:List Int) (rA:ay):Es (qQ b rA) (vr [.list (b.map (MV.i .u8)),bX rA]) (FW (MV.i .u8)):=⟨by
 unfold qQ;delta vr;conv=>arg 2;whnf
 refine ap (dq (λr=>[.list (r.1.map (MV.i .u8)),.i .i64 r.2]) (λr=>(2,[.list (r.map (MV.i .u8))])) λst=> ?_) λw=> ?_
 .unfold nH;conv=>arg 2;whnf
  first|refine cf ?_|refine gj ?_ ?_
  .conv=>arg 2;whnf
   refine lR (f:=(MV.i .i64)) λy=> ?_;exact sm
  .exact sm
 .exact sm⟩
instance awC (a:bu):Es (C2 a) (H9 [dc a]) (FW (MV.i .u8)):=⟨by unfold C2;delta H9;exact sm⟩
instance aaD (rA:bu):Es (wP rA) (xl [dc rA]) (MV.h .u8 30):=⟨by unfold wP;delta xl;exact sm⟩
def PM (a:kv)(a1:List Int):Sm (λr=> .eH ((λ_=> .cw []) r.1) (eJ r.2)) (xm (eJ a) (.list (a1.map (MV.i .u8)))) (sG a a1):=by
 unfold xm sG;refine bF (ar (fB (DD ?_)));refine ap (Ir a1) λrA=> ?_;refine fB ?_;refine ap (Sx).h λaO=> ?_;refine ah1 (aL (aL (aL (aL (aL (aL (aL (aL ?_))))))));refine ap (dy (λr=>(v6 r)) (λr=>(2,(v7 r))) (rfl) λst=> ?_) λw=> ?_
 .unfold AV;refine ar (aH (ar (aH (ar (aH (ar (aH (ar (aH (ar (aH ?_)))))))))));refine PF ?_;refine bW ?_ ?_
  .refine aoO (ar (bo (fB (aL (aL ?_)))));refine ap (iC st.2.2.2.2.1 6).h λbK=> ?_;refine aH ?_;refine ap (iC st.2.2.2.2.1 11).h λgQ=> ?_;refine aH ?_;refine ap (iC st.2.2.2.2.1 25).h λn6=> ?_;refine aH ?_;refine ap (iC st.1 2).h λrH=> ?_;refine aH ?_;refine ap (iC st.1 13).h λn7=> ?_;refine aH ?_;refine ap (iC st.1 22).h λBN=> ?_;refine aH ?_;exact ae (rfl)
  .exact ae (rfl)
 .refine bP rfl (ar (aH (ar (aH (ar (aH (ar (aH (ar (aH (PF ?_)))))))))));refine ap (dy (λr=>[.i .i64 r.1,.h .u32 6 r.2.1,.list (r.2.2.1.map (MV.i .u8)),.i .i64 r.2.2.2]) (λr=>(4,(v9 r))) (rfl) λaZ=> ?_) λw1=> ?_
  .unfold AW;refine ar (aH (ar (fB (DD ?_))));refine bW ?_ ?_
   .refine aL (aL (aL ?_));exact ae (rfl)
   .exact ae (rfl)
  .refine bP rfl (ar (fB (DD ?_)));exact ae (rfl)
def PN (sA:kv)(b:List Int):Sm (λr=> .eH ((λ_=> .cw []) r.1) (eJ r.2)) (nT (eJ sA) (.list (b.map (MV.i .u8)))) (nI sA b):=by
 unfold nT nI;refine bF (ar (fB (DD (bJ (n:=b.length) (by simp only [bD,sh,AI]) (bP (et (rfl:_=afE (MV.i .u8) b) λ_=>rfl) (bJ (n:=sA.left.length) (by simp only [bD,sh,AI]) (bJ (n:=b.length) (by simp only [bD,sh,AI]) (aL ?_))))))));refine ap (dy (λr=>(v9 r)) (λr=>(2,(v9 r))) (by simp [eJ,v9]) λst=> ?_) λw=> ?_
 .unfold kR;refine ar (fB (DD (bJ (n:=st.2.1.length) (by simp only [bD,sh,AI]) ?_)));refine bW ?_ ?_
  .refine bJ (n:=st.2.1.length) (by simp only [bD,sh,AI]) (aL ?_);refine ap (by first|(simpa [eJ,v9] using PM (⟨st.1,st.2.1,st.2.2⟩:kv) (aec (AS 0) (aeY (AS 64) st.2.1));done)|(have hq:=PM (⟨st.1,st.2.1,st.2.2⟩:kv) (aec (AS 0) (aeY (AS 64) st.2.1));simp only [eJ,v9,afu,aft] at hq;exact hq)) λrA=> ?_;refine xY (ar (fB (DD (bP (et (rfl:_=afE (MV.i .u8) rA.2.left) λ_=>rfl) (bJ (n:=rA.2.left.length) (by simp only [bD,sh,AI]) (aL ?_))))));exact ae (by first|(simp [eJ,v9];done)|simp only [eJ,v9,ab2,afw,afz,aft,afu,afC,Sum.map_inl,Sum.map_inr])
  .exact ae (rfl)
 .refine bP rfl (ar (fB (DD ?_)));exact ae (rfl)
def Sy (a:List Int)(a1:List Int):Sm (λr=> .eH ((λ_=> .cw []) r.1) [.h .u32 6 r.2]) (zT [.h .u32 6 a] (.list (a1.map (MV.i .u8)))) (vF a a1):=by
 unfold zT vF;refine bF (ar (fB (bo ?_)));refine ap (Ir a1) λrA=> ?_;refine fB ?_;refine ap (Sx).h λaO=> ?_;refine ah1 (aL (aL (aL (aL (aL (aL (aL (aL ?_))))))));refine ap (dy (λr=>(v6 r)) (λr=>(2,(v7 r))) (rfl) λst=> ?_) λw=> ?_
 .unfold iT;refine ar (aH (ar (aH (ar (aH (ar (aH (ar (aH (ar (aH ?_)))))))))));refine PF ?_;refine bW ?_ ?_
  .refine aoO (ar (bo (fB (aL (aL ?_)))));refine ap (iC st.2.2.2.2.1 6).h λbK=> ?_;refine aH ?_;refine ap (iC st.2.2.2.2.1 11).h λgQ=> ?_;refine aH ?_;refine ap (iC st.2.2.2.2.1 25).h λn6=> ?_;refine aH ?_;refine ap (iC st.1 2).h λrH=> ?_;refine aH ?_;refine ap (iC st.1 13).h λn7=> ?_;refine aH ?_;refine ap (iC st.1 22).h λBN=> ?_;refine aH ?_;exact ae (rfl)
  .exact ae (rfl)
 .refine bP rfl (ar (aH (ar (aH (ar (aH (ar (aH (ar (aH (PF ?_)))))))))));refine ap (dy (λr=>[.i .i64 r.1,.h .u32 6 r.2]) (λr=>(4,[.h .u32 6 r])) (rfl) λaZ=> ?_) λw1=> ?_
  .unfold C3;refine ar (aH (ar (fB (bo ?_))));refine bW ?_ ?_
   .refine aL (aL (aL ?_));exact ae (rfl)
   .exact ae (rfl)
  .refine bP rfl (ar (fB (bo ?_)));exact ae (rfl)
def Vf (sA:kv):Sm (λr=> .eH ((MV.h .u8 30) r.1) (eJ r.2)) (rl (eJ sA)) (vf sA):=by
 unfold rl vf;refine ar (fB (DD (bJ (n:=sA.left.length) (by simp only [bD,sh,AI]) (bJ (n:=sA.left.length) (by simp only [bD,sh,AI]) ?_))));refine ab3 (by simp only [bD]) ?_;refine ap (am4 sA.long) λrA=> ?_;refine bF (bP (et (rfl:_=afE (MV.i .u8) rA) λ_=>rfl) (bP (et (rfl:_=afE (MV.i .u8) sA.left) λ_=>rfl) (bJ (n:=sA.left.length) (by simp only [bD,sh,AI]) (bJ (n:=rA.length) (by simp only [bD,sh,AI]) (aL ?_)))));refine ap (dy (λr=>[.h .u32 6 r.1,.list (r.2.map (MV.i .u8))]) (λr=>(2,[.h .u32 6 r])) (by simp [eJ]) λst=> ?_) λw=> ?_
 .unfold nJ;refine ar (fB (ar (bF (bo (bJ (n:=st.2.length) (by simp only [bD,sh,AI]) ?_)))));refine bW ?_ ?_
  .refine bJ (n:=st.2.length) (by simp only [bD,sh,AI]) (aL ?_);refine ap (by first|(simpa [eJ] using Sy st.1 (aec (AS 0) (aeY (AS 64) st.2));done)|(have hq:=Sy st.1 (aec (AS 0) (aeY (AS 64) st.2));simp only [eJ,afu,aft] at hq;exact hq)) λaO=> ?_;refine xY (ar (fB (bo (bP (et (rfl:_=afE (MV.i .u8) st.2) λ_=>rfl) (bJ (n:=st.2.length) (by simp only [bD,sh,AI]) (aL ?_))))));exact ae (by first|(simp [eJ];done)|simp only [eJ,ab2,afw,afz,aft,afu,afC,Sum.map_inl,Sum.map_inr])
  .exact ae (rfl)
 .refine bP rfl (ar (fB (bo ?_)));refine ap (dy (λr=>[.list (r.1.map (MV.i .u8)),.i .i64 r.2]) (λr=>(4,[.list (r.map (MV.i .u8))])) (rfl) λaZ=> ?_) λw1=> ?_
  .unfold kS;refine DD ?_;refine bW ?_ ?_
   .refine aL ?_;refine ap (Yf aZ.1 (AT .u64 (w.getD (AS aZ.2) 0)) 4) λbK=> ?_;refine Fu ?_;exact ae (rfl)
   .exact ae (rfl)
  .refine bP rfl (ar (bF (bo (bJ (n:=w1.length) (by simp only [bD,sh,AI]) (aL ?_)))));refine al8 (M:=w1) (rfl) ?_;exact ae (rfl)
def am7 (b:List Int):Sm (λr=> .h .u8 30 r) (MC (.list (b.map (MV.i .u8)))) (HI b):=by unfold MC HI;refine bF ?_;refine ap aew λs=> ?_;refine fB ?_;refine ap (PN ⟨s,[],0⟩ b) λr=> ?_;refine xY (ar (fB (ar (bF (ar (aH (bo ?_)))))));refine ap (Vf r.2) λq=> ?_;exact xY (fB (ae rfl))
instance Vg (rA:aj):Es (qR rA) (rn [c8 rA]) (MV.h .u8 30):=⟨by
 unfold qR;delta rn;conv=>arg 2;whnf
 refine kr (aaB rA) λaO=> ?_;conv=>arg 2;whnf
 refine kr (am7 aO) λbK=> ?_;exact sm⟩
theorem PO (a:List aa)(a1:List aa)(a2:List UInt8):Sm MV.b (rq (.list (a.map aQ)) (.list (a1.map aQ)) (.s a2)) (nK a a1 a2):=by
 unfold rq nK;refine bF (bF (nw ?_));refine ap (f:=λr=>[.b r]) ?_ λw=> ?_
 .refine ap (Su a).h λrA=> ?_;refine fO ?_;refine cu ?_ ?_
  .exact ae (rfl)
  .refine ap (Su a1).h λaO=> ?_;refine fO ?_;refine cu ?_ ?_
   .exact ae (rfl)
   .exact ae (rfl)
 .refine ar (fO (bo ?_));refine cu ?_ ?_
  .refine ap (Sw) λbK=> ?_;refine fO ?_;exact ae (rfl)
  .refine ap (aes) λgQ=> ?_;refine da (rr ?_);refine ap (aas gQ a).h λn6=> ?_;refine ox (ar (da (rr (awu ?_))));refine ap (am3).h λrH=> ?_;refine da (rr ?_);refine ap (Vd a).h λn7=> ?_;refine bF ?_;refine ap (ai5 rH n7).h λBN=> ?_;refine ox (ar (da (rr (awu ?_))));refine ap (Ya n6.1 a2).h λHz=> ?_;refine ox (ar (da (rr (DD ?_))));refine ap (aev BN.1 a2).h λQq=> ?_;refine ox (ar (da (rr (DD ?_))));refine ap (f:=λr=>[.b r]) ?_ λw1=> ?_
   .refine cu ?_ ?_
    .exact ae (rfl)
    .refine bJ (n:=Hz.2.1.length) (by simp only [bD,sh,AI]) (bJ (n:=Qq.2.1.length) (by simp only [bD,sh,AI]) ?_);refine cu ?_ ?_
     .exact ae (rfl)
     .refine ap (Rj n6.1 a1).h λB6=> ?_;refine bF ?_;refine ap (Vd B6).h λUm=> ?_;refine bF ?_;refine ap (Vd a1).h λQN=> ?_;refine bF ?_;refine ap (Yd BN.1 QN).h λUn=> ?_;refine bF ?_;refine ap (ai7 Um Un).h λXt=> ?_;refine fO ?_;exact ae (rfl)
   .refine ar (fO (bo ?_));refine cu ?_ ?_
    .exact ae (rfl)
    .refine ap (dy (λr=>[.i .i64 r]) (ait (λr=>(2,[])) (λr=>(1,[.b r]))) (rfl) λst=> ?_) λw2=> ?_
     .unfold kT;refine ar (aH (bo (bJ (n:=Hz.2.1.length) (by simp only [bD,sh,AI]) ?_)));refine bW ?_ ?_
      .refine dJ (f:=aU) (rfl) λy=> ?_;refine da (gK ?_);refine dJ (f:=aU) (rfl) λy1=> ?_;refine da (gK ?_);refine dJ (f:=aU) (rfl) λy2=> ?_;refine da (gK ?_);refine dJ (f:=aU) (rfl) λy3=> ?_;refine da (gK ?_);refine dJ (f:=aU) (rfl) λy4=> ?_;refine da (gK ?_);refine dJ (f:=aU) (rfl) λy5=> ?_;refine da (gK ?_);refine dJ (f:=bX) (rfl) λy6=> ?_;refine da (gK ?_);refine ap (ai8 (⟨y.Client,y1.Seq,y2.E,y3.Value,y4.Version,y5.Names⟩:ay) y6).h λad9=> ?_;refine fO ?_;refine cu ?_ ?_
       .exact ae (rfl)
       .exact ae (rfl)
      .exact ae (rfl)
     .rcases w2 with p1|p2
      .refine TW rfl (bo ?_);refine ap (f:=λr=>[.b r]) ?_ λw3=> ?_
       .refine ap (Sw) λad8=> ?_;refine fO ?_;refine cu ?_ ?_
        .refine ap (Vg Hz.1).h λamw=> ?_;refine fB ?_;refine ap (aaD Qq.1).h λamx=> ?_;refine fB ?_;exact ae (rfl)
        .exact ae (rfl)
       .refine ar (fO (bo ?_));exact ae (rfl)
      .refine TX rfl (bP rfl (ar (fO (bo ?_))));exact ae (rfl)
end
def Vh {σ ρ:Type}{body:σ->Option (Sum σ ρ)}{s:σ}{r:ρ}(h:Loop body s=some r): ∃n,iter body n s=some r:=by
 unfold Loop oT at h;split at h
 .grind
 .split at h;all_goals grind
theorem kc {σ ρ:Type}{body:σ->Option (Sum σ ρ)}{s:σ}{r:ρ}(h:body s=some (.inr r)):Loop body s=some r:=dI (n:=1) (by simp [iter,h])
def mg {σ ρ:Type}{body:σ->Option (Sum σ ρ)} {s s':σ}{r:ρ}(h:body s=some (.inl s'))(h2:Loop body s'=some r):Loop body s=some r:=by have ⟨n,hn⟩:=Vh h2;exact dI (n:=n+1) (by grind [iter])
theorem w8 (x:Int):AT .u8 x=x%256:=by simp [AT,afx,amj]
theorem sQ (x:Int):AT .u64 x=x%18446744073709551616:=by simp [AT,afx,amj]
def aAR (x:Int):AT .i64 x=(x+9223372036854775808)%18446744073709551616-9223372036854775808:=by rw [IntKind.wrap_i64]
def gM (n:Nat):Nat:=if n=0 then 0 else if n<256 then 1 else if n<65536 then 2 else if n<16777216 then 3 else if n<4294967296 then 4 else if n<1099511627776 then 5 else if n<281474976710656 then 6 else if n<72057594037927936 then 7 else 8
def GG:Nat->Nat->List Int
 |0,_=>[]
 |k+1,n=>((n/256^k%256:Nat):Int)::GG k n
def Ff:Nat->List Int->Nat
 |acc,[]=>acc
 |acc,c::l=>Ff (acc *256+c.toNat) l
def uj (l:List Int):Prop:= ∀x∈l,0<=x/\x<256
def uj.cons {c:Int}{l:List Int}(h:uj (c::l)):(0<=c/\c<256)/\uj l:=⟨h c abu,λx hx=>h x (by simp [hx])⟩
def uj.app {l m:List Int}(h:uj l)(h2:uj m):uj (l++m):=λx hx=>by
 rcases akA.1 hx with hx|hx
 .exact h x hx
 .exact h2 x hx
theorem uj.drop {l:List Int}(n:Nat)(h:uj l):uj (l.drop n):=λx hx=>h x (List.mem_of_mem_drop hx)
theorem uj.take {l:List Int}(n:Nat)(h:uj l):uj (l.take n):=λx hx=>h x (akw hx)
def aja (k n:Nat):(GG k n).length=k:=by
 induction k with
 |zero=>rfl
 |succ k ih=>simp [GG,ih]
theorem tk (n:Nat):gM n<=8:=by grind [gM]
def PP (m:Nat):(m=0/\gM m=0)\/(1<=m/\m<256/\gM m=1)\/(256<=m/\m<65536/\gM m=2)\/(65536<=m/\m<16777216/\gM m=3)\/(16777216<=m/\m<4294967296/\gM m=4)\/(4294967296<=m/\m<1099511627776/\gM m=5)\/(1099511627776<=m/\m<281474976710656/\gM m=6)\/(281474976710656<=m/\m<72057594037927936/\gM m=7)\/(72057594037927936<=m/\gM m=8):=by
 by_cases c0:m=0
 .simp_all [gM,if_pos]
 by_cases c1:m<256
 .exact .inr (.inl ⟨aab,c1,by simp_all [gM,if_neg,if_pos]⟩)
 by_cases c2:m<65536
 .simp_all [gM,if_neg,if_pos]
 by_cases c3:m<16777216
 .simp_all [gM,if_neg,if_pos]
 by_cases c4:m<4294967296
 .simp_all [gM,if_neg,if_pos]
 by_cases c5:m<1099511627776
 .simp_all [gM,if_neg,if_pos]
 by_cases c6:m<281474976710656
 .simp_all [gM,if_neg,if_pos]
 by_cases c7:m<72057594037927936;all_goals simp_all [gM,if_neg,if_pos]
def p7 {n:Nat}(h:0<n)(hb:n<2^64):gM n=gM (n/256)+1:=by rcases PP n with a|a|a|a|a|a|a|a|a<;>rcases PP (n/256) with b|b|b|b|b|b|b|b|b<;>omega
theorem aey {n:Nat}(h:gM n=0):n=0:=by grind [gM]
def am8: ∀(k n:Nat),k<=8->n<256^k->(0<k->256^(k-1)<=n)->gM n=k:=by
 intro k;induction k with
 |zero=>intro n _ h _;simp at h;subst h;rfl
 |succ k ih=>
  intro n hk h1 h2;have hp:0<n:=(by grind)
  have hb:n<2^64:=by refine Nat.lt_of_lt_of_le h1 ?_;have:=ahE (n:=256) abq hk;simpa using this
  rw [p7 hp hb,ih (n/256) aab (by grind) (λhk0=> ?_)];rw [show k+1-1=(k-1)+1 by omega,akI] at h2;omega
def GH: ∀(l:List Int) (acc:Nat),Ff acc l=acc *256^l.length+Ff 0 l:=by
 intro l;induction l with
 |nil=>grind [Ff]
 |cons c l ih=>simp only [Ff,sh];grind
def acu: ∀(l:List Int),uj l->Ff 0 l<256^l.length:=by
 intro l;induction l with
 |nil=>grind [Ff]
 |cons c l ih=>
  intro h;have ⟨hc,hl⟩:=h.cons;have ih:=ih hl;simp only [Ff,sh];rw [GH,alL,alP,akI];have h1:c.toNat<=255:=aab
  have h2:=alu (256^l.length) h1;omega
def ajb: ∀(k a n:Nat),GG k (a *256^k+n)=GG k n:=by
 intro k;induction k with
 |zero=>intro a n;rfl
 |succ k ih=>
  intro a n;simp only [GG];have e:a *256^(k+1)+n=a *256 *256^k+n:=by rw [akI,Nat.mul_assoc,alQ 256]
  grind [amz,alj,Nat.pow_pos]
def ajc: ∀(l:List Int),uj l->GG l.length (Ff 0 l)=l:=by
 intro l;induction l with
 |nil=>intro _;rfl
 |cons c l ih=>intro h;have ⟨hc,hl⟩:=h.cons;have dX:=acu l hl;simp only [Ff,sh,GG];rw [GH,alL,alP,ajb,ih hl];congr 1;rw [amz,alj _ _ (Nat.pow_pos abq),Nat.div_eq_of_lt dX];omega
def Rk (n:Nat):List Int:=(gM n:Int)::GG (gM n) n
theorem xq (n:Nat):(Rk n).length=gM n+1:=by simp [Rk,aja]
def mO (b:List Int):Option (Nat×List Int):=match b with
 |[]=>none
 |y::r=>if 8<y.toNat\/(0<y.toNat/\r[0]? =some 0)\/r.length<y.toNat then none else some (Ff 0 (r.take y.toNat),r.drop y.toNat)
theorem lO {b:List Int}(hb:uj b){n:Nat}{r:List Int}(h:mO b=some (n,r)):b=Rk n++r/\n<2^64/\uj r:=by
 unfold mO at h;cases b with
 |nil=>cases h
 |cons y l=>
  simp only at h;have ⟨hy,hl⟩:=hb.cons;split at h
  .cases h
  .injection h with h;injection h with h1 h2;have hlen:(l.take y.toNat).length=y.toNat:=by rw [IN];omega
   have dX:=acu _ (hl.take y.toNat);have hk:gM n=y.toNat:=by
    refine am8 _ _ aab (by grind) (λh0=> ?_);rw [<-h1];cases l with
    |nil=>grind
    |cons c l=>
     have hc0:c≠0:=(by grind)
     have ⟨k,hk⟩: ∃k,y.toNat=k+1:=(by simp_all)
     rw [hk] at hlen;rw [hk,Nat.add_sub_cancel,akD,Ff,GH];have hll:(l.take k).length=k:=by simpa using hlen
     rw [hll,alL,alP];have:=alu (256^k) (show 1<=c.toNat by have:=hl.cons.1;omega);omega
   refine ⟨?_,?_,?_⟩
   .unfold Rk;have:=ajc _ (hl.take y.toNat);grind [No]
   .have:=ahE (n:=256) abq (show y.toNat<=8 by omega);grind
   .rw [<-h2];exact hl.drop _
def zz (n:Int):Nat:=if n<0 then (2 *(-(n+1))+1).toNat else (2 *n).toNat
def uz (u:Nat):Int:=if u%2=1 then-((u/2:Nat):Int)-1 else ((u/2:Nat):Int)
def i64 (n:Int):Prop:= -9223372036854775808<=n/\n<=9223372036854775807
def apg {n:Int}(h:i64 n):zz n<2^64:=by grind [zz,i64]
theorem awD {u:Nat}:zz (uz u)=u:=by grind [zz,uz]
theorem ar5 {u:Nat}(h:u<2^64):i64 (uz u):=by grind [uz,i64]
def qk (n:Int):List Int:=Rk (zz n)
def lh (s:List UInt8):List Int:=Rk s.length++sq s
def PQ (s:List UInt8):uj (sq s):=by intro x hx;grind [sq,UInt8.toNat_lt]
theorem DG (s:List UInt8):(sq s).length=s.length:=by simp [sq]
def Rl (l:List Int):List UInt8:=l.map λn=>an0 n.toNat
theorem aez (s:List UInt8):Rl (sq s)=s:=by simp_all [Rl,sq,amA,List.map_id,alC]
def aeA {l:List Int}(h:uj l):sq (Rl l)=l:=by
 unfold Rl sq;rw [amA];conv=>rhs;rw [<-List.map_id l]
 apply alC;intro b hb;have:=h b hb;simp;omega
theorem uj.all {l:List Int}(h:uj l):l.all isByte=true:=by rw [afH];intro x hx;have:=h x hx;grind [isByte,decide_eq_true,UInt8.toNat_ofNat']
def ajd {R:Type}{l:List Int}(h:uj l)(K:List UInt8->Option R):LA l K=K (Rl l):=by unfold LA;rw [if_pos h.all];rfl
def uk (b:List Int):Option (Int×List Int):=match mO b with|some (u,r)=>some (uz u,r)|none=>none
def BU (b:List Int)(most:Nat):Option (List UInt8×List Int):=match mO b with
 |some (n,r)=>if most<n\/r.length<n then none else some (Rl (r.take n),r.drop n)
 |none=>none
def GI {b:List Int}(hb:uj b){n:Int}{r:List Int}(h:uk b=some (n,r)):b=qk n++r/\i64 n/\uj r:=by grind [uk,mO,lO,qk,awD,ar5]
def BF {b:List Int}(hb:uj b){most:Nat}{s:List UInt8}{r:List Int}(h:BU b most=some (s,r)):b=lh s++r/\s.length<=most/\uj r:=by
 unfold BU at h;cases ht:mO b with
 |none=>grind
 |some p=>
  have ⟨n,r'⟩:=p;rw [ht] at h;simp only at h;split at h
  .cases h
  .injection h with h;injection h with h1 h2;have ⟨e,hu,hr⟩:=lO hb ht;have hl:s.length=n:=by rw [<-h1];unfold Rl;rw [bD,IN];omega
   refine ⟨?_,aab,by rw [<-h2];exact hr.drop _⟩;unfold lh;rw [hl,e,ad5,<-h1,<-h2,aeA (hr.take _),No]
theorem Kh (n:Nat):(akr 64 (n:Int))=BitVec.ofNat 64 n:=by grind
def aje {A c:Nat}(a:Nat)(hA:A=2^8 *a)(hc:c<2^8)(h:A+c<2^64):Ch .u64 (A:Int) (c:Int)=((A+c:Nat):Int):=by show AT .u64 ((akr 64 (A:Int)|||akr 64 (c:Int)).toNat:Int)=_;have e3:=Nat.two_pow_add_eq_or_of_lt hc a;grind [Kh,BitVec.toNat_or,akJ,sQ]
def am9 {a c:Nat}(hc:c<256)(h:a *256+c<2^64):Ch .u64 ((a *256:Nat):Int) (c:Int)=((a *256+c:Nat):Int):=aje a (alQ _ _) hc h
def and_one {u:Nat}(h:u<2^64):eX .u64 (u:Int) 1=((u%2:Nat):Int):=by show AT .u64 ((akr 64 (u:Int)&&&akr 64 ((1:Nat):Int)).toNat:Int)=_;grind [Kh,BitVec.toNat_and,akJ,alY,sQ]
def xor_zero {k:IntKind}(hk:k.bits=64){x:Nat}(h:x<2^64):ca k (x:Int) 0=k.wrap (x:Int):=by unfold ca;grind
def Yg {k:IntKind}(hk:k.bits=64){x:Nat}(h:x<2^64)(m:Int)(hm:akr 64 m=BitVec.allOnes 64):ca k (x:Int) m=k.wrap ((2^64-1-x:Nat):Int):=by unfold ca;rw [hk,Kh,hm,BitVec.xor_allOnes,BitVec.toNat_not,akJ,alY h]
def Is (n:Nat)(s:Nat)(hs:s<=64):ajW (n:Int) (2^min s (afx .u64))=((n/2^s:Nat):Int):=by grind [akK,Int.le_of_lt,Int.pow_pos,min,afx,akB]
def WN:List UInt8:=(([0,1,2,2,3,3,3,3,4,4,4,4,4,4,4,4,5,5,5,5,5,5,5,5,5,5,5,5,5,5,5,5,6,6,6,6,6,6,6,6,6,6,6,6,6,6,6,6,6,6,6,6,6,6,6,6,6,6,6,6,6,6,6,6]:List UInt8)++([7,7,7,7,7,7,7,7,7,7,7,7,7,7,7,7,7,7,7,7,7,7,7,7,7,7,7,7,7,7,7,7,7,7,7,7,7,7,7,7,7,7,7,7,7,7,7,7,7,7,7,7,7,7,7,7,7,7,7,7,7,7,7,7]:List UInt8))++(([8,8,8,8,8,8,8,8,8,8,8,8,8,8,8,8,8,8,8,8,8,8,8,8,8,8,8,8,8,8,8,8,8,8,8,8,8,8,8,8,8,8,8,8,8,8,8,8,8,8,8,8,8,8,8,8,8,8,8,8,8,8,8,8]:List UInt8)++([8,8,8,8,8,8,8,8,8,8,8,8,8,8,8,8,8,8,8,8,8,8,8,8,8,8,8,8,8,8,8,8,8,8,8,8,8,8,8,8,8,8,8,8,8,8,8,8,8,8,8,8,8,8,8,8,8,8,8,8,8,8,8,8]:List UInt8))
def Tz: ∀y:Fin 256,((WN.getD y 0).toNat+7)/8=(if (y:Nat)=0 then 0 else 1)/\(WN.getD y 0).toNat<=8:=by decide+kernel
def aeB (y s:Int):Option Int:=if (0:Int)<=(AT .u8 y)/\(AT .u8 y)<(WN.length:Int) then some (AT .i64 (s+(AT .i64 ((WN.getD (AS (AT .u8 y)) 0).toNat:Int)))) else none
def ana {y:Nat}(hy:y<256){s:Nat}(hs:s<=56): ∃t:Nat,aeB (y:Int) (s:Int)=some ((s+t:Nat):Int)/\(t+7)/8=(if y=0 then 0 else 1)/\t<=8:=by have ⟨h1,h2⟩:=Tz ⟨y,hy⟩;simp only at h1 h2;unfold aeB;rw [w8,show ((y:Int)%256)=(y:Int) by omega,afB,if_pos ⟨aab,by rw [show WN.length=256 by decide+kernel];omega⟩,wrap64 (x:=((WN.getD y 0).toNat:Int)) aab aab,wrap64 aab aab];grind
theorem anb {m:Nat}(h:m<2^64): ∃t:Nat,AE (m:Int)=some (t:Int)/\(t+7)/8=gM m/\t<=64:=by
 have key: ∀x s:Nat,x<256->s<=7->gM m=s+(if x=0 then 0 else 1)-> ∃t:Nat,aeB (x:Int) ((8 *s:Nat):Int)=some (t:Int)/\(t+7)/8=gM m/\t<=64:=by intro x s hx hs hk;obtain ⟨t,e,h1,h2⟩:=ana hx (s:=8 *s) aab;exact ⟨8 *s+t,e,by grind,aab⟩
 show∃t:Nat,bd (if (4294967296:Int)<=(m:Int) then if (0:Int)<=32 then some (ajW (m:Int) (2^min 32 (afx .u64)),32) else none else some ((m:Int),0):Option (Int×Int)) (λw=>bd (if (65536:Int)<=w.1 then if (0:Int)<=16 then some (ajW w.1 (2^min 16 (afx .u64)),AT .i64 (w.2+16)) else none else some (w.1,w.2):Option (Int×Int)) λw1=>bd (if (256:Int)<=w1.1 then if (0:Int)<=8 then some (ajW w1.1 (2^min 8 (afx .u64)),AT .i64 (w1.2+8)) else none else some (w1.1,w1.2):Option (Int×Int)) λw2=>aeB w2.1 w2.2)=some (t:Int)/\(t+7)/8=gM m/\t<=64;have mr: ∀x s:Nat,x<65536->s<=6->gM m=s+gM x-> ∃t:Nat,bd (if (256:Int)<=(x:Int) then if (0:Int)<=8 then some (ajW (x:Int) (2^min 8 (afx .u64)),AT .i64 (((8 *s:Nat):Int)+8)) else none else some ((x:Int),((8 *s:Nat):Int)):Option (Int×Int)) (λw2=>aeB w2.1 w2.2)=some (t:Int)/\(t+7)/8=gM m/\t<=64:=by
  intro x s hx hs hk;have hkx:=PP x;by_cases c:256<=x
  .rw [if_pos aab,if_pos abq,Is x 8 abq,wrap64 aab aab,ak,show (((8 *s:Nat):Int)+8)=((8 *(s+1):Nat):Int) by omega];exact key (x/2^8) (s+1) aab aab (by grind)
  .rw [if_neg aab,ak];refine key x s aab aab ?_;grind
 have eG: ∀x s:Nat,x<4294967296->s<=4->gM m=s+gM x-> ∃t:Nat,bd (if (65536:Int)<=(x:Int) then if (0:Int)<=16 then some (ajW (x:Int) (2^min 16 (afx .u64)),AT .i64 (((8 *s:Nat):Int)+16)) else none else some ((x:Int),((8 *s:Nat):Int)):Option (Int×Int)) (λw1=>bd (if (256:Int)<=w1.1 then if (0:Int)<=8 then some (ajW w1.1 (2^min 8 (afx .u64)),AT .i64 (w1.2+8)) else none else some (w1.1,w1.2):Option (Int×Int)) λw2=>aeB w2.1 w2.2)=some (t:Int)/\(t+7)/8=gM m/\t<=64:=by
  intro x s hx hs hk;by_cases c:65536<=x
  .rw [if_pos aab,if_pos abq,Is x 16 abq,wrap64 aab aab,ak,show (((8 *s:Nat):Int)+16)=((8 *(s+2):Nat):Int) by omega];refine mr (x/2^16) (s+2) aab aab ?_;rw [hk,p7 (n:=x) aab aab,p7 (n:=x/256) aab aab,show x/256/256=x/2^16 by omega];omega
  .rw [if_neg aab,ak];exact mr x s aab aab hk
 by_cases c:4294967296<=m
 .rw [if_pos aab,if_pos abq,Is m 32 abq,ak];refine eG (m/2^32) 4 aab aab ?_;rw [p7 (n:=m) aab aab,p7 (n:=m/256) aab aab,p7 (n:=m/256/256) aab aab,p7 (n:=m/256/256/256) aab aab,show m/256/256/256/256=m/2^32 by omega];omega
 .rw [if_neg aab,ak];exact eG m 0 aab aab aab
def aaE {m:Nat}(h:m<2^64):wv (m:Int)=some ((1+gM m:Nat):Int):=by unfold wv;have ⟨t,e,h1,h2⟩:=anb h;rw [e,ak,if_pos abq,wrap64 (x:=(t:Int)+7) aab aab,agu aab,wrap64 (x:=((t:Int)+7)/8) aab aab,wrap64 aab aab,<-h1];congr 1
def ar6 {n j:Nat}(hj:j<=7):AT .u8 (ajW (n:Int) (2^min (AS (AT .i64 (8 *(j:Int)))) (afx .u64)))=((n/256^j%256:Nat):Int):=by rw [wrap64 aab aab,show AS (8 *(j:Int))=8 *j by omega,Is n (8 *j) aab,w8,Nat.pow_mul];grind
def anc {n:Nat}: ∀(j:Nat) (l:List Int),j<=8->l.length<=2^45+(8-j)->Loop (tJ (n:Int)) (l,(j:Int)-1)=some (l++GG j n):=by
 intro j;induction j with
 |zero=>simp_all [kc,tJ,if_neg,GG]
 |succ j ih=>
  intro l hj hl;have e0:(((j+1:Nat):Int)-1)=(j:Int):=aab
  rw [e0];refine mg (s':=(l++[((n/256^j%256:Nat):Int)],(j:Int)-1)) ?_ ?_
  .unfold tJ;rw [if_pos aab,ar6 aab,if_pos (by grind [wrap64]),if_pos (by grind),wrap64 aab aab]
  grind [GG,ad5]
def Ki {b:List Int}(hb:b.length<=2^44){n:Nat}(h:n<2^64):sw b (n:Int)=some (b++Rk n):=by unfold sw;have hk:=tk n;rw [aaE h,ak];unfold pq;rw [if_pos ⟨rfl,rfl⟩,ak,show AT .i64 (((1+gM n:Nat):Int)-1)=(gM n:Int) by grind [wrap64],show AT .u8 (gM n:Int)=(gM n:Int) by grind [w8],if_pos (by grind),wrap64 aab aab,anc (gM n) _ hk (by grind),ak,ad5];rfl
def Sz {b:List Int}(hb:b.length<=2^44){n:Int}(h:i64 n):vC b n=some (b++qk n):=by
 unfold vC i64 at *;have e:ca .u64 (AT .u64 ((AT .u64 n) *2^min (AS 1) (afx .u64))) (AT .u64 (ajW n (2^min (AS 63) (afx .i64))))=(zz n:Int):=by
  rw [show min (AS 1) (afx .u64)=1 by decide,show min (AS 63) (afx .i64)=63 by decide,akK _ abq,sQ,sQ,sQ];unfold zz;by_cases c:n<0
  .rw [if_pos c,show n/2^63%18446744073709551616=18446744073709551615 by omega,show n%18446744073709551616 *2^1%18446744073709551616=(((2 *n+18446744073709551616).toNat:Nat):Int) by omega,Yg rfl aab _ abq,sQ];omega
  .rw [if_neg c,show n/2^63%18446744073709551616=0 by omega,show n%18446744073709551616 *2^1%18446744073709551616=(((2 *n).toNat:Nat):Int) by omega,xor_zero rfl aab,sQ];omega
 rw [e,Ki hb (apg h),ak];rfl
def xr {b:List Int}(hb:b.length<=2^44){s:List UInt8}(h:s.length<=2^44):lG b s=some (b++lh s):=by unfold lG;have:=tk s.length;rw [sQ,show ((s.length:Int)%18446744073709551616)=((s.length:Nat):Int) by omega,Ki hb aab,ak,if_pos (by grind [IT,xq,DG]),ad5];rfl
def ajf: ∀(k n c:Nat),n<2^64->gM n=k->c+k<=9->Loop AO ((n:Int),(c:Int))=some ((c+k:Nat):Int):=by
 intro k;induction k with
 |zero=>grind [aey,kc,AO]
 |succ k ih=>
  intro n c hn hk hc;have h0:0<n:=by refine Nat.pos_of_ne_zero λh0=> ?_;subst h0;simp [gM] at hk
  have hs:=p7 h0 hn;refine mg (s':=(((n/256:Nat):Int),((c+1:Nat):Int))) ?_ ?_
  .unfold AO;rw [if_pos aab,if_pos abq,agu aab,sQ,wrap64 aab aab];grind
  .rw [ih (n/256) (c+1) aab aab aab];grind
def aaF {n:Nat}(h:n<2^64):C0 (n:Int)=some ((1+gM n:Nat):Int):=by unfold C0;have hk:=tk n;have:=ajf (gM n) n 1 h rfl aab;simp_all
def ajg {l:List Int}{i:Nat}(hi:i<=7): ∀(d j n:Nat),j+d=i->n<2^64->Loop (Ei (l,(i:Int))) ((n:Int),(j:Int))=some ((n/256^d:Nat):Int):=by
 intro d;induction d with
 |zero=>simp_all [kc,Ei,if_neg]
 |succ d ih=>
  intro j n hj hn;refine mg (s':=(((n/256:Nat):Int),((j+1:Nat):Int))) ?_ ?_
  .unfold Ei;rw [if_pos aab,if_pos abq,agu aab,sQ,wrap64 aab aab];congr 3;omega
  .rw [ih (j+1) (n/256) aab aab,akI,alQ,Nat.div_div_eq_div_mul]
def ajh {n:Nat}(hn:n<2^64): ∀(j:Nat) (l:List Int),j<=8->l.length<=2^45+(8-j)->Loop (zG (n:Int)) (l,(j:Int)-1)=some (l++GG j n):=by
 intro j;induction j with
 |zero=>simp_all [kc,zG,if_neg,GG]
 |succ j ih=>
  intro l hj hl;have e0:(((j+1:Nat):Int)-1)=(j:Int):=aab
  rw [e0];refine mg (s':=(l++[((n/256^j%256:Nat):Int)],(j:Int)-1)) ?_ ?_
  .unfold zG;have e1:=ajg (l:=l) (i:=j) aab j 0 n aab hn;rw [show ((0:Nat):Int)=0 from rfl] at e1;rw [if_pos aab,e1,ak,if_pos abq,if_pos (by grind),wrap64 aab aab,w8,akL (akM _)];grind
  grind [GG,ad5]
def EC {b:List Int}(hb:b.length<=2^44){n:Nat}(h:n<2^64):yg b (n:Int)=some (b++Rk n):=by unfold yg;have hk:=tk n;rw [if_pos (by grind),aaF h,ak,ako,show AT .i64 (((1+gM n:Nat):Int)-1)=(gM n:Int) by grind [wrap64],show AT .u8 (gM n:Int)=(gM n:Int) by grind [w8],if_pos (by grind),wrap64 aab aab,ajh h (gM n) _ hk (by grind),ak,ad5];rfl
def ia {b:List Int}(hb:b.length<=2^44){n:Int}(h:i64 n):jz b n=some (b++qk n):=by
 unfold jz i64 at *;have hz:=apg (n:=n) h;unfold qk;by_cases c:n<0
 .rw [if_pos c,wrap64 (x:=n+1) aab aab,wrap64 (x:=0-(n+1)) aab aab,sQ,sQ,sQ,show (2 *((0-(n+1))%18446744073709551616)%18446744073709551616+1)%18446744073709551616=((zz n:Nat):Int) by unfold zz;grind,EC hb hz,ak]
 .rw [if_neg c,sQ,sQ,show 2 *(n%18446744073709551616)%18446744073709551616=((zz n:Nat):Int) by unfold zz;grind,EC hb hz,ak]
def xt {b:List Int}(hb:b.length<=2^44){s:List UInt8}(h:s.length<=2^44):qO b s=some (b++lh s):=by unfold qO;have:=tk s.length;rw [sQ,show ((s.length:Int)%18446744073709551616)=((s.length:Nat):Int) by omega,EC hb aab,ak,if_pos (by grind [IT,xq,DG]),ad5];rfl
def PR (b:List Int):Int:=match b with
 |[]=>2
 |y::r=>if 8<y.toNat\/(0<y.toNat/\r[0]? =some 0) then 3 else 2
def vt (b:List Int):PR b≠0:=by unfold PR;grind
def tkB (b:List Int):Int×List Int×Int:=match mO b with
 |some (n,r)=>((n:Int),r,0)
 |none=>(0,[],PR b)
def aji {b:List Int}{y:Int}{m:List Int}(e:aec (AS 0) (aeY (AS (AT .i64 y)) (aec (AS 1) (aeY (AS (b.length:Int)) b)))=m)(hm:uj m)(h8:m.length<=8): ∀(d j acc:Nat),j+d=m.length->acc<256^j->Loop (qE b y) ((acc:Int),(j:Int))=some (Ff acc (m.drop j):Int):=by
 intro d;induction d with
 |zero=>intro j acc hj _;refine kc ?_;unfold qE;rw [e];rw [if_neg aab,show m.drop j=[] from (by grind)];rfl
 |succ d ih=>
  intro j acc hj ha;have dX:j<m.length:=aab
  have hc:=hm _ (OF dX);have aAS:256^(j+1)<=256^8:=ahE abq aab;have h64:acc *256+m[j].toNat<2^64:=(by grind)
  refine mg (s':=(((acc *256+m[j].toNat:Nat):Int),((j+1:Nat):Int))) ?_ ?_
  .unfold qE;rw [e];rw [if_pos aab,aI dX,if_pos abq,show min (AS 8) (afx .u64)=8 by decide,sQ,sQ,wrap64 aab aab,show (acc:Int) *2^8%18446744073709551616=((acc *256:Nat):Int) by omega,show m[j]%18446744073709551616=(m[j].toNat:Int) by omega,am9 aab h64];congr 3
  grind [afI,Ff]
def GJ {b:List Int}(hb:uj b)(hl:b.length<2^40):pJ b=some (tkB b):=by
 unfold pJ tkB;cases b with
 |nil=>simp [mO,PR]
 |cons y l=>
  have ⟨hy,KG⟩:=hb.cons;have e1:aec (AS 1) (aeY (AS (((y::l).length:Nat):Int)) (y::l))=l:=abu
  have ey:AT .i64 y=y:=(by grind [wrap64])
  rw [if_neg (by grind),T0 abu,if_pos (by grind),e1];simp only [akW,ey];have hg:(if (8:Int)<y then some true else if (0:Int)<y then if (0:Int)<(l.length:Int) then ix l 0 λy1=>some (decide (y1=0)) else some false else some false:Option Bool)=some (decide (8<y.toNat\/(0<y.toNat/\l[0]? =some 0))):=by
   by_cases c1:(8:Int)<y
   .grind
   .rw [if_neg c1];by_cases c2:(0:Int)<y
    .rw [if_pos c2];cases l with
     |nil=>simp;omega
     |cons c r=>rw [if_pos (by grind),T0 abu];congr 1;grind
    grind
  rw [hg,ak];unfold mO PR;by_cases c1:8<y.toNat\/(0<y.toNat/\l[0]? =some 0)
  .grind
  .rw [if_neg (by grind)];by_cases c2:l.length<y.toNat
   .simp_all
   .have hlen:(l.take y.toNat).length=y.toNat:=by rw [IN];omega
    have e2:aec (AS 0) (aeY (AS (AT .i64 y)) (aec (AS 1) (aeY (AS (((y::l).length:Nat):Int)) (y::l))))=l.take y.toNat:=by rw [e1,ey];simp
    have hL:=aji e2 (KG.take _) aab y.toNat 0 0 aab abu;simp_all [Int.natCast_zero,List.drop_zero,if_neg,if_pos,ak]
def Rm {b:List Int}(hb:uj b)(hl:b.length<2^40):mf b=some (match uk b with|some (n,r)=>(n,r,0)|none=>(0,[],PR b)):=by
 unfold mf uk;rw [GJ hb hl,ak,if_pos abq];unfold tkB;cases ht:mO b with
 |none=>
  have e:ca .i64 (AT .i64 (ajW 0 (2^min (AS 1) (afx .u64)))) (AT .i64 (0-(AT .i64 (eX .u64 0 1))))=0:=by decide+kernel
  rw [e]
 |some p=>
  have ⟨u,r⟩:=p;have ⟨_,hu,_⟩:=lO hb ht;congr 2;rw [and_one hu,show AS 1=1 from rfl,Is u 1 abq,wrap64 (x:=((u/2^1:Nat):Int)) aab aab];unfold uz;by_cases c:u%2=1
  .rw [if_pos c,c,wrap64 abq abq,wrap64 abq abq,Yg rfl aab _ abq,aAR];omega
  .rw [if_neg c,show u%2=0 by omega,wrap64 abq abq,wrap64 abq abq,show (0:Int)-((0:Nat):Int)=0 by decide,xor_zero rfl aab,wrap64 aab aab]
def T8 (b:List Int)(most:Nat):List UInt8×List Int×Int:=match mO b with
 |some (n,r)=>if most<n then ([],[],5) else if r.length<n then ([],[],2) else (Rl (r.take n),r.drop n,0)
 |none=>([],[],PR b)
theorem Kj (b:List Int)(most:Nat):(∃s r,BU b most=some (s,r)/\T8 b most=(s,r,0))\/(BU b most=none/\ ∃e,e≠0/\T8 b most=([],[],e)):=by
 unfold BU T8;cases mO b with
 |none=>exact .inr ⟨rfl,_,vt b,rfl⟩
 |some p=>
  have ⟨n,r⟩:=p;by_cases c1:most<n
  .simp_all
  .by_cases c2:r.length<n;all_goals simp_all [if_pos,if_neg]
def PS {b:List Int}{n:Nat}{r:List Int}(h:mO b=some (n,r)):r.length<=b.length:=by unfold mO at h;grind
theorem SA {n:Nat}{r:List Int}(hr:uj r)(hl:r.length<2^40){most:Nat}(hm:most<2^40)(hn:n<2^64): (if (AT .u64 (imax (most:Int) 0))<(n:Int) then some (([]:List UInt8),([]:List Int),(5:Int)) else if (AT .u64 (r.length:Int))<(n:Int) then some (([]:List UInt8),([]:List Int),2)
 else if (0:Int)<=0/\(0:Int)<=(n:Int)/\(n:Int)<=(r.length:Int) then LA (aec (AS 0) (aeY (AS (n:Int)) r)) λbs=>if (0:Int)<=(n:Int)/\(n:Int)<=(r.length:Int)/\(r.length:Int)<=(r.length:Int) then some (bs,aec (AS (n:Int)) (aeY (AS (r.length:Int)) r),0) else none
 else none)=some (if most<n then (([]:List UInt8),([]:List Int),(5:Int)) else if r.length<n then ([],[],2) else (Rl (r.take n),r.drop n,0)):=by
 have e1:AT .u64 (imax (most:Int) 0)=(most:Int):=by unfold imax;rw [sQ];split<;>omega
 have e2:AT .u64 (r.length:Int)=(r.length:Int):=by rw [sQ];omega
 by_cases c1:most<n
 .grind
 .rw [if_neg aab,if_neg c1];by_cases c2:r.length<n
  .grind
  .rw [if_neg aab,if_neg c2,if_pos (by grind),show aec (AS 0) (aeY (AS (n:Int)) r)=r.take n by simp,ajd (hr.take _),if_pos (by grind)];simp
def PT {b:List Int}(hb:uj b)(hl:b.length<2^40){most:Nat}(hm:most<2^40):kM b (most:Int)=some (T8 b most):=by
 unfold kM T8;rw [GJ hb hl,ak];unfold tkB;cases ht:mO b with
 |none=>simp only [vt b,decide_false,agO,if_true]
 |some p=>obtain ⟨n,r⟩:=p;have ⟨_,hu,hr⟩:=lO hb ht;grind [SA]
def ajj {y:Int}{l:List Int}(hy:0<=y/\y<=8)(hly:y.toNat<=l.length)(hl:uj l): ∀(d j acc:Nat),j+d=y.toNat->acc<256^j->Loop (wJ (y::l) y) ((acc:Int),((j+1:Nat):Int))=some (Ff acc ((l.take y.toNat).drop j):Int):=by
 intro d;have ey:AT .i64 y=y:=(by grind [wrap64])
 induction d with
 |zero=>intro j acc hj _;refine kc ?_;unfold wJ;rw [if_neg aab,show (l.take y.toNat).drop j=[] from (by grind)];rfl
 |succ d ih=>
  intro j acc hj ha;have dX:j<l.length:=aab
  have hc:=hl _ (OF dX);have aAS:256^(j+1)<=256^8:=ahE abq aab;have hs:acc *256+l[j].toNat<256^(j+1):=by rw [akI];omega
  refine mg (s':=(((acc *256+l[j].toNat:Nat):Int),((j+1+1:Nat):Int))) ?_ ?_
  .unfold wJ;rw [if_pos aab,aI (by grind),agV,sQ,sQ,sQ,wrap64 aab aab];grind
  .have awE:j<(l.take y.toNat).length:=by rw [IN];omega
   grind [afI,Ff]
def GK {b:List Int}(hb:uj b)(hl:b.length<2^40):wK b=some (tkB b):=by
 unfold wK tkB;cases b with
 |nil=>simp [mO,PR]
 |cons y l=>
  have ⟨hy,KG⟩:=hb.cons;have ey:AT .i64 y=y:=(by grind [wrap64])
  rw [if_neg (by grind),T0 abu];simp only [akW,ey];have hg:(if (8:Int)<y then some true else if (0:Int)<y then if (1:Int)<((y::l).length:Int) then ix (y::l) 1 λy1=>some (decide (y1=0)) else some false else some false:Option Bool)=some (decide (8<y.toNat\/(0<y.toNat/\l[0]? =some 0))):=by
   by_cases c1:(8:Int)<y
   .grind
   .rw [if_neg c1];by_cases c2:(0:Int)<y
    .rw [if_pos c2];cases l with
     |nil=>simp;omega
     |cons c r=>rw [if_pos (by grind),show (1:Int)=((1:Nat):Int) from rfl,aI abu];congr 1;grind
    grind
  rw [hg,ak];unfold mO PR;simp only;by_cases c1:8<y.toNat\/(0<y.toNat/\l[0]? =some 0)
  .grind
  .rw [if_neg (by grind),wrap64 (x:=1+y) aab aab];by_cases c2:l.length<y.toNat
   .grind
   .have hL:=ajj (y:=y) (l:=l) ⟨aab,aab⟩ aab KG y.toNat 0 0 aab abu;simp at hL;rw [if_neg (by grind),hL,ak,if_pos (by grind),if_neg (by grind)];rw [show AS (1+y)=y.toNat+1 by omega];simp
def Rn {b:List Int}(hb:uj b)(hl:b.length<2^40):tW b=some (match uk b with|some (n,r)=>(n,r,0)|none=>(0,[],PR b)):=by
 unfold tW uk;rw [GK hb hl,ak];unfold tkB;cases ht:mO b with
 |none=>simp only [vt b,decide_false,agO,if_true]
 |some p=>
  have ⟨u,r⟩:=p;have ⟨_,hu,_⟩:=lO hb ht;simp only [decide_true,akn,afF,if_false];rw [if_pos (by grind),akL (akM _),agu (akM _),sQ];unfold uz;by_cases c:u%2=1
  .rw [if_pos aab,if_pos (by grind),if_pos c,wrap64 (x:=(u:Int)/2%18446744073709551616) aab aab,wrap64 (x:=0-(u:Int)/2%18446744073709551616) aab aab,wrap64 aab aab];grind
  .rw [if_neg aab,if_pos (by grind),if_neg c,wrap64 aab aab];grind
def DH {b:List Int}(hb:uj b)(hl:b.length<2^40){most:Nat}(hm:most<2^40):oe b (most:Int)=some (T8 b most):=by
 unfold oe T8;rw [GK hb hl,ak];unfold tkB;cases ht:mO b with
 |none=>simp only [vt b,decide_false,agO,if_true]
 |some p=>obtain ⟨n,r⟩:=p;have ⟨_,hu,hr⟩:=lO hb ht;grind [SA]
def li (l:List Int):List Int:=(l.map qk).flatten
@[simp] theorem PU (n : Int)(l : List Int) : li (n :: l) = qk n ++ li l := rfl
theorem SB (l m:List Int):li (l++m)=li l++li m:=by grind [li]
theorem fT (n:Int):(qk n).length<=9:=by grind [qk,xq,tk,zz]
theorem fp (s:List UInt8):(lh s).length<=9+s.length:=by unfold lh;rw [IT,xq,DG];have:=tk s.length;omega
def vK (l:List Int):(li l).length<=9 *l.length:=by
 induction l with
 |nil=>simp [li]
 |cons n l ih=>grind [PU,IT,sh,fT]
theorem GL {b:List Int}{n:Int}{r:List Int}(h:uk b=some (n,r)):r.length<=b.length:=by
 unfold uk at h;cases ht:mO b with
 |none=>grind
 |some p=>have ⟨u,r'⟩:=p;simp_all [PS]
def PV {b:List Int}{most:Nat}{s:List UInt8}{r:List Int}(h:BU b most=some (s,r)):r.length<=b.length:=by
 unfold BU at h;cases ht:mO b with
 |none=>grind
 |some p=>
  rw [ht] at h;simp only at h;split at h
  .cases h
  .have:=PS ht;grind
def oR:Nat->List Int->Option (List Int×List Int)
 |0,b=>some ([],b)
 |k+1,b=>match uk b with
  |none=>none
  |some (n,r)=>match oR k r with
   |none=>none
   |some (l,r')=>some (n::l,r')
def Lc: ∀(k:Nat) {b:List Int},uj b-> ∀{l r:List Int},oR k b=some (l,r)->b=li l++r/\l.length=k/\(∀n∈l,i64 n)/\uj r/\r.length<=b.length:=by
 intro k;induction k with
 |zero=>intro b hb l r h;injection h with h;injection h with h1 h2;subst h1;subst h2;exact ⟨rfl,rfl,abu,hb,agG _⟩
 |succ k ih=>
  intro b hb l r h;simp only [oR] at h;cases ht:uk b with
  |none=>grind
  |some p=>have ⟨e1,hn,Lu⟩:=GI hb ht;grind [oR,GL,PU,ad5,sh]
def Kk (o:aa):List Int:=[o.Client,o.Seq,o.Kind,o.Version,o.Session,o.Span]
def BG (o:aa):List Int:=li (Kk o)++(lh o.Path++lh o.Value)
def PW (o:aa):Prop:= ∀n∈Kk o,i64 n
def aaG (o:aa):(BG o).length<=72+o.Path.length+o.Value.length:=by have h1:=vK (Kk o);have h2:=fp o.Path;have h3:=fp o.Value;have h4:(Kk o).length=6:=rfl;grind [BG,IT]
def aeC (o:aa):(bw o).isSome=true:=by unfold bw;by_cases k1:o.Kind=1<;>by_cases k2:o.Kind=2<;>by_cases k5:o.Kind=5<;>by_cases k10:o.Kind=10<;>simp only [k1,k2,k5,k10,if_true,if_false,ak,decide_true]<;>(repeat' split)<;>first|rfl|grind [ak]
def Kl (o:aa):aM (dK o) λb=>b=true->o.Path.length<=100/\o.Value.length<=1000:=by
 have ⟨u,hu⟩:=Option.isSome_iff_exists.1 (aeC o);unfold dK;have h1: ∃b,(if (0:Int)<=o.Client then if o.Client<=1000 then if (1:Int)<=o.Seq then some (decide (o.Seq<=1000000000)) else some false else some false else some false:Option Bool)=some b:=by (repeat' split)<;>exact ⟨_,rfl⟩
 have ⟨b,hb⟩:=h1;rw [hb,ak,hu];cases b with
 |false=>exact .mk abu
 |true=>
  by_cases c1:(0:Int)<=o.Kind;rotate_left
  .simp only [c1,if_false,ak];exact .mk abu
  by_cases c2:o.Kind<=11;rotate_left
  .simp only [c1,c2,if_true,if_false,ak];exact .mk abu
  by_cases c3:(o.Path.length:Int)<=100;rotate_left
  .simp only [c1,c2,c3,if_true,if_false,ak];exact .mk abu
  by_cases c4:(o.Value.length:Int)<=1000;rotate_left
  .simp only [c1,c2,c3,c4,if_true,if_false,ak];exact .mk abu
  simp_all;exact .mk λ_=>aab
theorem PX {b l:List Int}(hb:b.length<=2^43)(hl:l.length<=100)(h: ∀n∈l,i64 n):sB b l=some (b++li l):=by
 refine aM.eq (aM.bd (P:=λw=>w=b++li l) ?_ λw hw=> .mk hw);refine aM.count (λk=>(b++li (l.take k),(k:Int))) l.length (λ_=>True) (by simp [li]) trivial (λk hk _=> ?_) (λ_=> ?_)
 .have h2:=vK (l.take k);unfold vc;rw [if_pos aab,aI hk,Sz (by grind) (by grind),ak,wrap64 aab aab];refine .mk ⟨?_,trivial⟩;grind [afJ,By,SB,ad5,li]
 .unfold vc;rw [if_neg aab,ad1];exact .mk rfl
def aeD {b:List Int}(hb:b.length<=2^42){o:aa}(h:PW o)(hp:o.Path.length<=100000)(hv:o.Value.length<=100000):Jr b o=some (b++BG o):=by have h1:=vK (Kk o);have h2:=fp o.Path;have h4:(Kk o).length=6:=rfl;unfold Jr;rw [show ([o.Client,o.Seq,o.Kind,o.Version,o.Session,o.Span]:List Int)=Kk o from rfl,PX aab (by grind) h,ak,xr (by grind) aab,ak,xr (by grind) aab,ak];grind [BG,ad5]
def eI (b:List Int):Option (aa×List Int):=match oR 6 b with
 |some ([c,s,k,v,e,p],r)=>(match BU r 100 with
  |some (x,r)=>(match BU r 1000 with
   |some (y,r)=>some (⟨c,s,k,x,y,v,e,p⟩,r)
   |none=>none)
  |none=>none)
 |_=>none
def PY {b:List Int}(hb:uj b){o:aa}{r:List Int}(h:eI b=some (o,r)):b=BG o++r/\PW o/\uj r/\o.Path.length<=100/\o.Value.length<=1000:=by
 unfold eI at h;split at h;rotate_left
 .cases h
 rename_i c s k v e p r1 h1;have ⟨e1,_,n1,b1,_⟩:=Lc 6 hb h1;split at h;rotate_left
 .cases h
 rename_i x r2 h2;have ⟨e2,l2,b2⟩:=BF b1 h2;split at h;rotate_left
 .cases h
 rename_i y r3 h3;have ⟨e3,l3,b3⟩:=BF b2 h3;simp at h;have ⟨rfl,rfl⟩:=h;refine ⟨?_,n1,b3,l2,l3⟩;rw [e1,e2,e3];unfold BG;simp only [ad5];rfl
def zV {b:List Int}{e x:Int}(he:e≠0):qG b e x=some (x,b,e):=by simp_all [qG,if_neg]
def sR {b:List Int}{e m:Int}(he:e≠0):ya b e m=some ([],b,e):=by simp_all [ya,if_neg]
def p8 {b:List Int}(hb:uj b)(hl:b.length<2^40)(x:Int):(∃n r,uk b=some (n,r)/\qG b 0 x=some (n,r,0))\/(uk b=none/\ ∃e,e≠0/\qG b 0 x=some (0,[],e)):=by
 unfold qG;rw [if_pos rfl,Rm hb hl];cases h:uk b with
 |none=>exact .inr ⟨rfl,_,vt b,rfl⟩
 |some p=>grind
def Ld {b:List Int}(hb:uj b)(hl:b.length<2^40){m:Nat}(hm:m<2^40):(∃s r,BU b m=some (s,r)/\ya b 0 (m:Int)=some (s,r,0))\/(BU b m=none/\ ∃e,e≠0/\ya b 0 (m:Int)=some ([],[],e)):=by unfold ya;rw [if_pos rfl,PT hb hl hm];grind [Kj]
def Ro {b:List Int}(hb:uj b)(hl:b.length<2^40):aM (wu b) λr=>(∃o rest,eI b=some (o,rest)/\((dK o=some true/\r=(o,rest,0))\/(dK o=some false/\r.2.2≠0)))\/(eI b=none/\r.2.2≠0):=by
 unfold wu;have step: ∀{b:List Int} {n:Int} {r:List Int},uj b->b.length<2^40->uk b=some (n,r)->uj r/\r.length<2^40:=λhb hl h=>⟨(GI hb h).2.2,by have:=GL h;omega⟩
 have stepT: ∀{b:List Int} {m:Nat} {n:List UInt8} {r:List Int},uj b->b.length<2^40->BU b m=some (n,r)->uj r/\r.length<2^40:=λhb hl h=>⟨(BF hb h).2.2,by have:=PV h;omega⟩
 rcases p8 hb hl 0 with ⟨n0,r0,t0,g0⟩|⟨t0,e,he,g0⟩;rotate_left
 .rw [g0];simp only [ak,zV he,sR he,he,if_false];exact .mk (by grind [eI,oR])
 rw [g0,ak];have ⟨b0,l0⟩:=step hb hl t0;rcases p8 b0 l0 0 with ⟨n1,r1,t1,g1⟩|⟨t1,e,he,g1⟩;rotate_left
 .rw [g1];simp only [ak,zV he,sR he,he,if_false];exact .mk (by grind [eI,oR])
 rw [g1,ak];have ⟨b1,l1⟩:=step b0 l0 t1;rcases p8 b1 l1 0 with ⟨n2,r2,t2,g2⟩|⟨t2,e,he,g2⟩;rotate_left
 .rw [g2];simp only [ak,zV he,sR he,he,if_false];exact .mk (by grind [eI,oR])
 rw [g2,ak];have ⟨b2,l2⟩:=step b1 l1 t2;rcases p8 b2 l2 0 with ⟨n3,r3,t3,g3⟩|⟨t3,e,he,g3⟩;rotate_left
 .rw [g3];simp only [ak,zV he,sR he,he,if_false];exact .mk (.inr ⟨by simp_all [eI,oR],he⟩)
 rw [g3,ak];have ⟨b3,l3⟩:=step b2 l2 t3;rcases p8 b3 l3 0 with ⟨n4,r4,t4,g4⟩|⟨t4,e,he,g4⟩;rotate_left
 .rw [g4];simp only [ak,zV he,sR he,he,if_false];exact .mk (.inr ⟨by simp_all [eI,oR],he⟩)
 rw [g4,ak];have ⟨b4,l4⟩:=step b3 l3 t4;rcases p8 b4 l4 0 with ⟨n5,r5,t5,g5⟩|⟨t5,e,he,g5⟩;rotate_left
 .rw [g5];simp only [ak,sR he,he,if_false];exact .mk (.inr ⟨by simp_all [eI,oR],he⟩)
 rw [g5,ak];have ⟨b5,l5⟩:=step b4 l4 t5;have awF:oR 6 b=some ([n0,n1,n2,n3,n4,n5],r5):=by simp [oR,t0,t1,t2,t3,t4,t5]
 rcases Ld b5 l5 (m:=100) abq with ⟨x,r6,t6,g6⟩|⟨t6,e,he,g6⟩;rotate_left
 .rw [show ya r5 0 100=_ from g6];simp only [ak,sR he,he,if_false];exact .mk (by grind [eI])
 rw [show ya r5 0 100=_ from g6,ak];have ⟨b6,l6⟩:=stepT b5 l5 t6;rcases Ld b6 l6 (m:=1000) abq with ⟨y,r7,t7,g7⟩|⟨t7,e,he,g7⟩;rotate_left
 .simp_all;exact .mk (by grind [eI])
 rw [show ya r6 0 1000=_ from g7,ak];have ⟨m,em,_⟩:=Kl (⟨n0,n1,n2,x,y,n3,n4,n5⟩:aa);rw [em,ak];have ho:eI b=some (⟨n0,n1,n2,x,y,n3,n4,n5⟩,r7):=by simp [eI,awF,t6,t7]
 cases m with
 |true=>exact .mk (by grind)
 |false=>exact .mk (by grind)
def yR (o:aa):Prop:=dK o=some true
noncomputable instance (o:aa):Decidable (yR o):=Classical.propDecidable _
def yR.short {o:aa}(h:yR o):o.Path.length<=100/\o.Value.length<=1000:=by have ⟨b,e,hb⟩:=Kl o;rw [h] at e;grind
def acv (o:aa):dK o=some (decide (yR o)):=by have ⟨b,e,_⟩:=Kl o;simp_all [decide_eq_true,yR,decide_eq_false]
def acw (l:List aa):List Int:=(l.map BG).flatten
def acx (l:List aa):List Int:=Rk l.length++acw l
def FW {l:List aa}(hN: ∀o∈l,PW o)(hl:l.length<=100): ∀(todo done:List aa) (b:List Int),l=done++todo->b.length<=2^41+1200 *done.length-> Loop (qH l) (b,(done.length:Int))=some (if∀o∈todo,yR o then .inl (b++acw todo) else .inr ([],1)):=by
 intro todo;induction todo with
 |nil=>simp_all [kc,qH,if_neg,if_pos,acw]
 |cons o todo ih=>
  intro done b e hb;have hlen:l.length=done.length+todo.length+1:=by rw [e];simp;omega
  have dX:done.length<l.length:=aab
  have mq:l[done.length]=o:=by simp only [e];simp
  have jP:qH l (b,(done.length:Int))=if yR o then some (.inl (b++BG o,((done++[o]).length:Int))) else some (.inr (.inr ([],1))):=by
   unfold qH;simp only;rw [if_pos aab,aI dX,mq,acv,ak];by_cases hm:yR o
   .have hs:=hm.short;rw [decide_eq_true hm,if_neg abu,if_pos hm,aeD aab (hN o (by rw [e];simp)) aab aab,ak,wrap64 aab aab];simp
   .grind
  by_cases hm:yR o
  .rw [if_pos hm] at jP;refine mg jP ?_;have h1:=aaG o;have hs:=hm.short;rw [ih (done++[o]) (b++BG o) (by rw [e];simp) (by grind)];have hq:(∀x∈o::todo,yR x)↔ ∀x∈todo,yR x:=by simp [hm]
   by_cases ht: ∀x∈todo,yR x
   .rw [if_pos ht,if_pos (hq.2 ht),ad5];rfl
   grind
  simp_all [if_neg,kc]
noncomputable def sS:Nat->List Int->Option (List aa×List Int)
 |0,b=>some ([],b)
 |n+1,b=>(match eI b with
  |some (o,r)=>if yR o then (match sS n r with
   |some (l,r)=>some (o::l,r)
   |none=>none) else none
  |none=>none)
def PZ {b:List Int}(hb:uj b){o:aa}{r:List Int}(h:eI b=some (o,r)):uj r/\r.length<=b.length:=by have ⟨e,_,h2,_⟩:=PY hb h;grind
def Yh: ∀{n:Nat} {b:List Int} {l:List aa} {r:List Int},uj b->sS n b=some (l,r)->b=acw l++r/\l.length=n/\ ∀o∈l,PW o/\yR o:=by
 intro n;induction n with
 |zero=>intro b l r hb h;simp only [sS,aks,Prod.mk.injEq] at h;have ⟨rfl,rfl⟩:=h;exact ⟨rfl,rfl,abu⟩
 |succ n ih=>
  intro b l r hb h;rw [sS] at h;split at h;rotate_left
  .cases h
  rename_i o r1 h1;have ⟨e1,n1,b1,_⟩:=PY hb h1;split at h;rotate_left
  .cases h
  split at h;rotate_left
  .cases h
  rename_i l2 r2 h2;simp at h;have ⟨rfl,rfl⟩:=h;have ⟨e2,l2,a2⟩:=ih b1 h2;refine ⟨by rw [e1,e2,<-ad5];rfl,by grind,λx hx=> ?_⟩;grind
abbrev zO:aa:=⟨0,0,0,[],[],0,0,0⟩
def aAT {rA:Int×List Int×Int}{n:Nat}(hn:rA.1=(n:Int))(aAU:n<=10): ∀(m:Nat) (done:List aa) (r:List Int),uj r->r.length<2^40->done.length+m=n-> Loop (kN rA) (r,done++agN m zO,(done.length:Int))=some (match sS m r with|some (l,r')=> .inl (r',done++l)|none=> .inr ([],3)):=by
 intro m;induction m with
 |zero=>simp_all [kc,kN,if_neg,List.length_replicate,sS]
 |succ m ih=>
  intro done r hb hl e;have hix:done.length<(done++agN (m+1) zO).length:=abu
  have ⟨x,ex,hx⟩:=Ro hb hl;have jP:kN rA (r,done++agN (m+1) zO,(done.length:Int))=if x.2.2=0 then some (.inl (x.2.1,(done++[x.1])++agN m zO,((done++[x.1]).length:Int))) else some (.inr (.inr ([],3))):=by
   unfold kN;simp only;rw [if_pos (by grind),ex,ak,aI hix];by_cases he:x.2.2=0
   .rw [if_neg (by simp [he]),if_pos he,wrap64 aab aab];have hs:(done++agN (m+1) zO).set (AS (done.length:Int)) x.1=(done++[x.1])++agN m zO:=by rw [afB,List.set_append_right _ _ (agG _),amP,List.replicate_succ,List.set_cons_zero,ad5];rfl
    simp_all
   .grind
  rw [sS];rcases hx with ⟨o,rest,t0,⟨hm,rfl⟩|⟨hm,he⟩⟩|⟨t0,he⟩
  .refine mg jP ?_;have ⟨b2,l2⟩:=PZ hb t0;rw [ih (done++[o]) rest b2 aab (by grind),t0];simp only;rw [if_pos (show yR o from hm)];grind
  all_goals simp_all [if_neg,kc,yR]
def SC (s:List UInt8)(hs:s.length<2^40):jY s=some (match mO (sq s) with
 |some (n,r)=>if 10<n then ([],3) else (match sS n r with
  |some (l,r')=>if r'=[] then (l,0) else ([],3)
  |none=>([],3))
 |none=>([],3)):=by
 have hb:=PQ s;have hl:(sq s).length<2^40:=by rw [DG];exact hs
 unfold jY;rw [GJ hb hl,ak];unfold tkB;cases ht:mO (sq s) with
 |none=>simp only [vt,decide_false,agO,if_true,ak]
 |some p=>
  have ⟨n,r⟩:=p;have ⟨e1,n1,b1⟩:=lO hb ht;simp only [decide_true,akn,afF,if_false,ak];by_cases Hi:10<n
  .grind
  rw [decide_eq_false aab,if_neg abu,if_neg Hi,if_pos (by grind)];have:=aAT (rA:=((n:Int),r,0)) (n:=n) rfl aab n [] r b1 (by grind) abu;rw [show ((([]:List aa).length:Nat):Int)=0 from rfl,ako] at this;rw [show AS (n:Int)=n from afB n,this,ak];cases sS n r with
  |none=>rfl
  |some q=>
   have ⟨l,r'⟩:=q;cases r' with
   |nil=>rfl
   |cons y r'=>grind
def Yi {s:List UInt8}(hs:s.length<2^40){l:List aa}(h:jY s=some (l,0)):l.length<=10/\(∀o∈l,PW o)/\(∀o∈l,yR o)/\Rl (acx l)=s:=by
 have hb:=PQ s;rw [SC s hs] at h;split at h;rotate_left
 .simp at h
 rename_i n r ht;have ⟨e1,n1,b1⟩:=lO hb ht;split at h
 .simp at h
 split at h;rotate_left
 .simp at h
 rename_i l2 r2 h2;have ⟨e2,l2',a2⟩:=Yh b1 h2;split at h;rotate_left
 .simp at h
 grind [acx,aez]
def acy (l:List aa):aM (zk l) λb=>b=true->l.length<=30:=by
 refine aM.bd (P:=λw=>match w with| .inl _=>l.length<=30| .inr p=>p=false) ?_ ?_
 .refine aM.loop (λst=> ∃i:Nat,st=(i:Int)/\i<=l.length/\i<=30) (λst=>l.length-st.toNat) ⟨0,rfl,aab,aab⟩ ?_;rintro st ⟨i,rfl,h1,h2⟩;unfold K1;by_cases dX:i<l.length;rotate_left
  .rw [if_neg aab];exact .mk (by grind)
  rw [if_pos aab];by_cases h30:i=30
  .subst h30;exact .mk rfl
  rw [if_neg aab,aI dX];by_cases hp:(200:Int)<(l[i].Path.length:Int)
  .rw [if_pos hp,ak,if_pos rfl];exact .mk rfl
  rw [if_neg hp,aI dX,ak];by_cases hv:(1100:Int)<(l[i].Value.length:Int)
  .rw [decide_eq_true hv,if_pos rfl];exact .mk rfl
  rw [decide_eq_false hv,if_neg abu,wrap64 aab aab];exact .mk (by grind)
 .rintro (_|p) h
  .exact .mk λ_=>h
  .exact .mk (by grind)
def acz (o:aa):aJ:=⟨o.Client,o.Seq,o.Kind,o.Path,o.Value,o.Version,o.Session,o.Span⟩
def ajk {l:List aa}(hl:l.length<=1000):yf l=some (l.map acz):=by
 refine aM.eq (aM.bd (P:=λw=>w=l.map acz) ?_ λw hw=> .mk hw);refine aM.count (λk=>((l.take k).map acz,(k:Int))) l.length (λ_=>True) abu trivial (λk hk _=> ?_) (λ_=> ?_)
 .unfold Ef;rw [if_pos aab,aI hk,if_pos (by simp;omega),wrap64 aab aab];refine .mk ⟨?_,trivial⟩;rw [afJ,By hk,ab2];rfl
 .unfold Ef;rw [if_neg aab,ad1];exact .mk rfl
def ar7 {a:List aJ}(hl:a.length<=1000):zB a a=some true:=by
 unfold zB;rw [decide_eq_true rfl];refine aM.eq (aM.bd (P:=λw=> ∃u,w= .inl u) ?_ ?_)
 .refine aM.loop (λst=> ∃i:Nat,st=(i:Int)/\i<=a.length) (λst=>a.length-st.toNat) ⟨0,rfl,aab⟩ ?_;rintro st ⟨i,rfl,h1⟩;unfold Om;by_cases dX:i<a.length;rotate_left
  .rw [if_neg aab];exact .mk ⟨(),rfl⟩
  rw [if_pos aab,aI dX,aI dX];simp;rw [wrap64 aab aab];exact .mk (by grind)
 .rintro w ⟨u,rfl⟩;exact .mk rfl
theorem ar8 {n:Int}(h:(alB .i64 n).wf=true):i64 n:=by grind [ahm,i64]
def ar9 {a:List aa}(hw: ∀y∈a,((alB .i64 y.Client).wf=true)/\((alB .i64 y.Seq).wf=true)/\((alB .i64 y.Kind).wf=true)/\(y.Path.length<=Go.maxLen)/\(y.Value.length<=Go.maxLen)/\((alB .i64 y.Version).wf=true)/\((alB .i64 y.Session).wf=true)/\((alB .i64 y.Span).wf=true)): ∀o∈a,PW o:=by intro o ho n hn;simp only [Kk,List.mem_cons,List.not_mem_nil,or_false] at hn;grind [ar8]
def letters:List UInt8:=[97,98,99,100,101,102,103,104,105,106,107,108,109,110,111,112,113,114,115,116,117,118,119,120,121,122,48,49,50,51,52,53,54,55,56,57,45,95]
def pa (b:UInt8):Bool:=letters.contains b
def iV (s:List UInt8):Bool:=decide (s≠[])&&(decide (s.length<=30)&&s.all pa)
theorem ajl {b:UInt8}(h:pa b=true):b.toNat<128:=by
 have hm:b∈letters:=by simpa [pa] using h
 have: ∀x∈letters,x.toNat<128:=abq
 grind
def aeE (l:List UInt8)(c:UInt8):0<=akv l c↔c∈l:=by
 induction l with
 |nil=>simp [akv]
 |cons b l ih=>unfold akv;grind
def Yj {b:UInt8}(h:pa b=true):iS (b.toNat:Int)=some false:=by
 have dX:=ajl h;have hm:b∈letters:=by simpa [pa] using h
 unfold iS Hv;have h1:decide ((0:Int)<=(b.toNat:Int)/\(b.toNat:Int)<128)=true:=(by grind)
 have h2:((b.toNat:Int)).toNat.toUInt8=b:=abu
 rw [h1,h2];have h3:decide (0<=akv letters b)=true:=decide_eq_true ((aeE _ _).2 hm);simp;grind [decide,akv,letters]
def contains_eq {s:List UInt8}(h:s.all pa=true)(hl:s.length<2^60):gy s iS=some false:=by
 have dR:Loop (jR iS true) ([.s s,.i .i64 0]:List MV)=some (.inl ()):=by
  refine aM.eq (aM.count (λk=>([.s s,.i .i64 (k:Int)]:List MV)) s.length (λ_=>True) rfl trivial (λk hk _=> ?_) (λ_=> ?_))
  .have hb:pa s[k]=true:=(by grind)
   have hd:Utf8.decode (⟨s.toArray⟩:ByteArray) k=(s[k].toNat,1):=by have:=decode_ascii (⟨s.toArray⟩:ByteArray) k (by grind [ByteArray.size]) (by grind [akq,ajl]);simpa [akq] using this
   unfold jR;have h1:Qt ([.s s,.i .i64 (k:Int)]:List MV)=true:=by simp [Qt,vN,itS,hk]
   have h2:FD ([.s s,.i .i64 (k:Int)]:List MV)=(s[k].toNat:Int):=by simp [FD,vN,itS,hd]
   have h3:FE ([.s s,.i .i64 (k:Int)]:List MV)=[.s s,.i .i64 ((k+1:Nat):Int)]:=by simp [FE,vN,itS,hd]
   rw [if_pos h1,h2,Yj hb,ak,if_neg abq,h3];exact .mk ⟨rfl,trivial⟩
  .unfold jR;have h1:Qt ([.s s,.i .i64 (s.length:Int)]:List MV)=false:=by simp [Qt,vN,itS]
   rw [if_neg (by grind)];exact .mk rfl
 simp_all [gy,mH,po]
def SD (s:List UInt8):amy s letters=[]↔s.all pa=true:=by
 unfold amy Lib.trimLeftS Lib.trimRightS;have hd: ∀l:List UInt8,l.dropWhile (letters.contains ·)=[]↔l.all pa=true:=by
  intro l;induction l with
  |nil=>simp
  |cons a l ih=>
   cases ha:letters.contains a with
   |true=>simp_all [pa,agK,if_true]
   |false=>simp_all [pa,amk,if_neg]
 have hid: ∀l:List UInt8,(l.dropWhile (letters.contains ·)).all pa=true↔l.all pa=true:=by
  intro l;induction l with
  |nil=>simp
  |cons a l ih=>
   simp only [List.dropWhile_cons];cases ha:letters.contains a with
   |true=>simp_all [if_true,List.all_cons,pa,agK]
   |false=>simp [ha]
 grind
def aeF (s:List UInt8):tD s=some (iV s):=by
 unfold tD;rw [Se];by_cases h0:s=[]
 .simp [h0,iV]
 .simp_all;by_cases hl:s.length<=30
  .rw [if_pos aab];have gq:1<=s.length:=by cases s with|nil=>grind|cons=>simp
   have ht:Sg s letters=some (amy s letters):=by
    unfold Sg;have e1:Nat.ble 1 s.length=true:=(by simp_all)
    have e2:Nat.ble s.length (2^46)=true:=alm aab;rw [e1,e2];rfl
   show bd (Sg s letters) _=_;rw [ht,ak];by_cases ha:s.all pa=true
   .rw [if_pos ((SD s).2 ha),contains_eq ha aab,ak];grind [iV]
   simp_all [if_neg,SD,iV]
  .rw [if_neg aab];simp [iV,hl]
def ajm (b:UInt8):pa b=decide ((97<=b.toNat/\b.toNat<=122)\/(48<=b.toNat/\b.toNat<=57)\/b.toNat=45\/b.toNat=95):=by
 have key: ∀n,n<256->pa (an0 n)=decide ((97<=n/\n<=122)\/(48<=n/\n<=57)\/n=45\/n=95):=by decide+kernel
 have:=key b.toNat b.toNat_lt;simp_all
def Vi (s:List UInt8)(hl:s.length<2^60):wA s=some (iV s):=by
 have ⟨r,e,hr⟩:=Hu (body:=vd s) s.length (λk=>pa (s.getD k 0)=true) false (λk hk _=>by
  have hc: ∀(b:UInt8) (K:Bool->Option (Int⊕(Unit⊕Bool))),bd (if (97:Int)<=(b.toNat:Int) then
   if (b.toNat:Int)<=122 then
   some true
   else
   if (48:Int)<=(b.toNat:Int) then
   if (b.toNat:Int)<=57 then
   some true
   else
   if (b.toNat:Int)=45 then
   some true
   else
   some (decide ((b.toNat:Int)=95))
   else
   if (b.toNat:Int)=45 then
   some true
   else
   some (decide ((b.toNat:Int)=95))
   else
   if (48:Int)<=(b.toNat:Int) then
   if (b.toNat:Int)<=57 then
   some true
   else
   if (b.toNat:Int)=45 then
   some true
   else
   some (decide ((b.toNat:Int)=95))
   else
   if (b.toNat:Int)=45 then
   some true
   else
   some (decide ((b.toNat:Int)=95)):Option Bool) K=K (pa b):=by
   intro b K;rw [ajm];generalize b.toNat=n;repeat' split
   all_goals rw [ak]
   all_goals congr 1
   all_goals grind
  unfold vd;rw [if_pos aab,if_pos ⟨aab,aab⟩,hc,afB];constructor
  .grind [wrap64]
  grind) (by
  simp_all [vd,if_neg])
 unfold wA;rw [e,ak];have uw:(∀k,k<s.length->pa (s.getD k 0)=true)↔s.all pa=true:=by
  rw [afH];constructor
  .grind [BY,By]
  .grind
 rcases hr with ⟨rfl,h⟩|⟨rfl,k,hk,h⟩
 .have h:=uw.1 h;simp;by_cases h0:s=[]
  .grind [iV]
  .have gq:1<=s.length:=by cases s with|nil=>grind|cons=>simp
   rw [if_pos aab];simp only [iV,h0,ne_eq,not_false_eq_true,decide_true,h,amt,agK,aks,decide_eq_decide];omega
 .grind [iV]
section
variable {c:UInt8}
theorem vL (l:List UInt8):bY c l≠[]:=by
 cases l with
 |nil=>simp [bY]
 |cons x l=>grind [bY]
theorem nW (l:List UInt8):bY c (c::l)=[]::bY c l:=by simp [bY]
def gO {x:UInt8}(h:x≠c)(l:List UInt8): ∃p r,bY c l=p::r/\bY c (x::l)=(x::p)::r:=by
 cases hs:bY c l with
 |nil=>grind [absurd,vL]
 |cons p r=>exact ⟨p,r,rfl,by grind [bY]⟩
theorem GM (l:List UInt8):(bY c l).flatMap (c::·)=c::l:=by
 induction l with
 |nil=>rfl
 |cons x l ih=>
  by_cases h:x=c
  .grind [nW]
  .have ⟨p,r,h1,h2⟩:=gO h l;grind
theorem ajn (l:List UInt8): ∀x∈bY c l,c∉x:=by
 induction l with
 |nil=>grind [bY]
 |cons y l ih=>
  by_cases h:y=c
  .grind [nW]
  .have ⟨p,r,h1,h2⟩:=gO h l;grind
theorem aeG {a:List UInt8}(ha:c∉a)(l:List UInt8):bY c (a++c::l)=a::bY c l:=by
 induction a with
 |nil=>exact nW l
 |cons x a ih=>
  have hx:x≠c:=by intro e;subst e;simp at ha
  have ⟨p,r,h1,h2⟩:=gO hx (a++c::l);grind
def aaH {a:List UInt8}(ha:c∉a):bY c a=[a]:=by
 induction a with
 |nil=>rfl
 |cons x a ih=>
  have hx:x≠c:=by intro e;subst e;simp at ha
  have ⟨p,r,h1,h2⟩:=gO hx a;grind
theorem aaI {L:List (List UInt8)}(h0:L≠[])(h: ∀x∈L,c∉x):bY c ((L.flatMap (c::·)).drop 1)=L:=by
 induction L with
 |nil=>grind
 |cons a L ih=>
  have ha:=h a abu;cases L with
  |nil=>simp [aaH ha]
  |cons b L=>grind [aeG]
theorem GN (l:List UInt8):(bY c l).length<=l.length+1:=by
 induction l with
 |nil=>simp [bY]
 |cons x l ih=>
  by_cases h:x=c
  .grind [nW]
  .have ⟨p,r,h1,h2⟩:=gO h l;grind
def Yk (l:List UInt8): ∀x∈bY c l,x.length<=l.length:=by
 induction l with
 |nil=>grind [bY]
 |cons y l ih=>
  by_cases h:y=c
  .grind [nW]
  .have ⟨p,r,h1,h2⟩:=gO h l;grind
def aaJ (l:List UInt8)(x:UInt8):bY c (l++[x])=if x=c then bY c l++[[]] else (bY c l).dropLast++[(bY c l).getLastD []++[x]]:=by
 induction l with
 |nil=>grind [bY]
 |cons y l ih=>
  rw [List.cons_append];by_cases hy:y=c
  .grind [bY,absurd,vL,List.dropLast,List.getLastD,List.getLast?_cons_cons]
  .have ⟨p,r,h1,h2⟩:=gO hy l;have ⟨p',r',h3,h4⟩:=gO hy (l++[x]);rw [ih,h1] at h3;split
   .grind
   .cases r with
    |nil=>grind
    |cons q r=>grind
end
theorem rz {α:Type}{l:List (List α)}(h:l≠[]):l.dropLast++[l.getLastD []]=l:=by grind [akx,List.dropLast_concat_getLast]
def aC (p:List UInt8):List (List UInt8):=if p=[47] then [] else bY 47 (p.drop 1)
def nX (p:List UInt8):Bool:=decide (p.head? =some 47)
def bk (p:List UInt8):Bool:=(nX p&&decide (p.length<=100))&&(decide ((aC p).length<=8)&&(aC p).all iV)
def Vj (p:List UInt8):jQ p ([47]:List UInt8)=some (if nX p then (p.drop 1,true) else (p,false)):=by
 unfold jQ jy jx;simp only [Se];cases p with
 |nil=>simp [nX,bd]
 |cons x r=>
  have e1:(([47]:List UInt8).length:Int)<=((x::r).length:Int):=by simp;omega
  rw [if_pos e1,if_pos (by grind),ak];by_cases hx:x=47
  .simp_all [if_pos,Int.le_refl,ak,nX]
  grind [decide,aec,AS,aeY,nX,ak]
def aaK (s:List UInt8):n9 s=some (!iV s):=by simp_all [n9,aeF]
def Vk {l:List (List UInt8)}{f:List UInt8->Option Bool}{q:List UInt8->Bool}(hf: ∀s,f s=some (q s))(hl:l.length<2^60):dU l f=some (l.any q):=by
 have ⟨r,e,hr⟩: ∃r,Loop (ej l f) 0=some r/\((r= .inl ()/\l.any q=false)\/((∃k:Nat,r= .inr (k:Int))/\l.any q=true)):=by
  refine aM.count (λk=>(k:Int)) l.length (λk=>(l.take k).any q=false) rfl rfl (λk hk hp=> ?_) (λhp=> ?_)
  .unfold ej;rw [if_pos aab,aI hk,hf,ak];cases hq:q l[k] with
   |true=>exact .mk (by grind)
   |false=>rw [wrap64 aab aab];refine .mk ⟨aab,?_⟩;grind [take_succ]
  .unfold ej;rw [if_neg aab];rw [ad1] at hp;exact .mk (.inl ⟨rfl,hp⟩)
 unfold dU iJ;rw [e];rcases hr with ⟨rfl,h⟩|⟨⟨k,rfl⟩,h⟩<;>simp only [ak,h]
 .rfl
 .simp
def ane (l:List (List UInt8)):(!l.any λs=>!iV s)=l.all iV:=by grind
def P0 (p:List UInt8):je p=some (if nX p&&decide (p.length<=100) then (aC p,decide ((aC p).length<=8)&&(aC p).all iV) else ([],false)):=by
 unfold je;rw [Vj,ak];cases ha:nX p with
 |false=>simp [ak]
 |true=>
  simp only [if_true,akn,afF,if_false,ak,agK];by_cases hl:p.length<=100
  .have e1:decide ((100:Int)<(p.length:Int))=false:=(by grind)
   rw [e1];simp only [afF,if_false,hl,decide_true,if_true];cases p with
   |nil=>grind [nX]
   |cons x r=>
    have hx:x=47:=by simpa [nX] using ha
    subst hx;simp only [List.drop_succ_cons,List.drop_zero,aC];by_cases hr:r=[]
    .simp_all
    .have hr': ¬(47::r:List UInt8)=[47]:=by simp [hr]
     rw [if_neg hr,if_neg hr'];have QD:r.length<=99:=by simpa using hl
     unfold T6;rw [alm (by omega:r.length<=4294967280)];simp;by_cases h8:(bY 47 r).length<=8
     .rw [if_pos aab,Vk aaK aab];simp_all [ak,ane,decide_true,agK]
     .rw [if_neg aab];simp only [ak,h8,decide_false,amk]
  grind
def zW (p:List UInt8):lF p=some (bk p):=by unfold lF;rw [P0,ak];unfold bk;grind
def Yl (p:List UInt8):sv p=some (if bk p then (aC p,0) else ([],13)):=by unfold sv;rw [P0,ak];unfold bk;grind
def ajo {R:Type}(b:UInt8)(K:List UInt8->Option R):LA [(b.toNat:Int)] K=K [b]:=by simp_all [LA,isByte]
theorem SE (p:List UInt8)(hl:p.length<=1000):Eb p=some (if nX p then aC p else [],nX p):=by
 unfold Eb;cases p with
 |nil=>simp [nX,ak]
 |cons x r=>
  have eR: ¬(((x::r).length:Int)=0):=by simp;omega
  have dX:(0:Int)<((x::r).length:Int):=abu
  rw [if_neg eR,if_pos ⟨abq,dX⟩,ak];have hx0:((x::r:List UInt8).getD (AS 0) 0)=x:=rfl;rw [hx0];by_cases hx:x=47;rotate_left
  .have hx': ¬((x.toNat:Int)=47):=by intro e;apply hx;apply ak2.1;show x.toNat=47;omega
   grind [nX]
  subst hx;have hab:nX (47::r)=true:=by simp [nX]
  simp only [if_true,aC];by_cases hr:r=[]
  .grind
  have dR:Loop (zo (47::r)) (([]:List (List UInt8)),([]:List UInt8),1)=some ((bY 47 r).dropLast,(bY 47 r).getLastD []):=by
   refine aM.eq (aM.count (λk=>((bY 47 (r.take k)).dropLast,(bY 47 (r.take k)).getLastD [],((k+1:Nat):Int))) r.length (λ_=>True) rfl trivial (λk hk _=> ?_) (λ_=> ?_))
   .unfold zo;dsimp only;have uU:(0:Int)<=((k+1:Nat):Int)/\((k+1:Nat):Int)<(((47:UInt8)::r).length:Int):=by simp;omega
    rw [if_pos uU.2,if_pos uU];have mq:((47::r:List UInt8).getD (AS ((k+1:Nat):Int)) 0)=r[k]:=by rw [afB,ahF,List.getElem?_cons_succ,By hk];rfl
    rw [mq,wrap64 aab aab];have hsn:=aaJ (c:=47) (r.take k) r[k];rw [<-take_succ hk] at hsn;have awG:=GN (c:=47) (r.take k);have aGr:(r.take k).length<=999:=by rw [IN];omega
    have aAV:=vL (c:=47) (r.take k);have VO:(bY 47 (r.take k)).dropLast++[(bY 47 (r.take k)).getLastD []]=bY 47 (r.take k):=by exact rz aAV
    by_cases hc:r[k]=47
    .have hc':((r[k].toNat:Nat):Int)=47:=by rw [hc];rfl
     rw [if_pos hc',if_pos (by simp;omega),ak];refine .mk ⟨?_,trivial⟩;grind
    .have hc': ¬((r[k].toNat:Nat):Int)=47:=by intro e;apply hc;apply ak2.1;show r[k].toNat=47;omega
     have hle:((bY 47 (r.take k)).getLastD []).length<=999:=by have:=Yk (c:=47) (r.take k) ((bY 47 (r.take k)).getLastD []) (by grind);omega
     rw [if_neg hc',if_pos uU,ajo,if_pos (by grind),ak];refine .mk ⟨?_,trivial⟩;grind
   .unfold zo;rw [if_neg abu,ad1];exact .mk rfl
  rw [dR,ak];have awG:=GN (c:=47) r;grind [bY,rz,vL]
def ul (p:List UInt8):kO p=some (bk p):=by
 unfold kO;by_cases hl:p.length<=100;rotate_left
 .rw [if_pos aab];simp [bk,hl]
 rw [if_neg aab,SE p aab,ak];have hle: ∀y∈(if nX p then aC p else []),y.length<=100:=by
  intro y hy;split at hy
  .unfold aC at hy;split at hy
   .simp at hy
   .have:=Yk _ y hy;grind
  .simp at hy
 have hlen:(if nX p then aC p else []).length<=101:=by
  split
  .grind [aC,GN,ac4]
  .simp
 generalize hL:(if nX p then aC p else [])=L at hle hlen;have ⟨r,e,hr⟩:=Hu (body:=yc (L,nX p)) L.length (λk=>iV (L.getD k [])=true) false (λk hk _=>by
  have hg:L.getD k []=L[k]:=by rw [ahF,By hk];rfl
  unfold yc;dsimp only;rw [if_pos aab,aI hk,Vi _ (by grind),ak,hg];constructor
  .grind [wrap64]
  grind) (by
  simp_all [yc,if_neg])
 rw [e,ak];have uw:(∀k,k<L.length->iV (L.getD k [])=true)↔L.all iV=true:=by
  rw [afH];constructor
  .grind [BY,By]
  .grind
 unfold bk;cases ha:nX p with
 |false=>simp_all
 |true=>
  rw [ha] at hL;simp at hL;rw [hL];rcases hr with ⟨rfl,h⟩|⟨rfl,k,hk,h⟩
  .have h:=uw.1 h;simp only [if_true,ak,Se,h,hl,decide_true,amt,agK,aks,decide_eq_decide];omega
  grind
def cN {p:List UInt8}(h:bk p=true):p.length<=100/\nX p=true/\(aC p).length<=8/\(aC p).all iV=true:=by simp_all [bk,afA,decide_eq_true_eq]
def yu (p:List UInt8):pZ p=some (if bk p then (aC p,0) else ([],13)):=by
 unfold pZ;rw [ul,ak];cases h:bk p with
 |false=>simp
 |true=>have ⟨h1,h2,_⟩:=cN h;grind [SE,ak]
def mP (l:List (List UInt8)):List UInt8:=if l=[] then [47] else l.flatMap (47::·)
theorem anf (l:List (List UInt8))(h1:(l.flatMap ((47:UInt8)::·)).length<=2^40)(h2:l.length<2^60):CR l=some (mP l):=by
 have dR:Loop (AF l) (([]:List UInt8),0)=some (l.flatMap ((47:UInt8)::·)):=by
  refine aM.eq (aM.count (λk=>((l.take k).flatMap ((47:UInt8)::·),(k:Int))) l.length (λ_=>True) rfl trivial (λk hk _=> ?_) (λ_=> ?_))
  .unfold AF;have hsp:(l.take (k+1)).flatMap ((47:UInt8)::·)=(l.take k).flatMap ((47:UInt8)::·)++[47]++l[k]:=by rw [take_succ hk,akE];simp
   have aGs:((l.take (k+1)).flatMap ((47:UInt8)::·)).length<=(l.flatMap ((47:UInt8)::·)).length:=by
    have:l.flatMap ((47:UInt8)::·)=(l.take (k+1)).flatMap ((47:UInt8)::·)++(l.drop (k+1)).flatMap ((47:UInt8)::·):=by rw [<-akE,No]
    rw [this,IT];omega
   rw [if_pos aab,if_pos (by grind),aI hk,if_pos (by grind),wrap64 aab aab];refine .mk ⟨?_,trivial⟩;grind
  .unfold AF;rw [if_neg aab,ad1];exact .mk rfl
 unfold CR;rw [dR,ak];unfold mP;cases l with
 |nil=>rfl
 |cons a l=>simp
def Vl {a b:List UInt8}(hb:(47:UInt8)∉b)(hl:(a++47::b).length<2^60):jT (a++47::b) ([47]:List UInt8)=some (a.length:Int):=by
 have dR:Loop (gD (a++47::b) 47) (((a++47::b).length-1:Nat):Int)=some (.inr (a.length:Int)):=by
  refine aM.eq (aM.loop (λst=> ∃i:Nat,st=(i:Int)/\a.length<=i/\i<(a++47::b).length) (λst=>st.toNat) (by grind) ?_);rintro st ⟨i,rfl,h1,h2⟩;unfold gD;rw [if_pos aab,if_pos ⟨aab,aab⟩];have hg:(a++47::b).getD (AS (i:Int)) 0=(a++47::b)[i]:=by rw [afB,ahF,By h2];rfl
  rw [hg];by_cases hi:i=a.length
  .subst hi;simp;exact .mk rfl
  .have eR:(a++47::b)[i]≠47:=by
    obtain ⟨j,hj⟩: ∃j,i=a.length+(j+1):=⟨i-a.length-1,aab⟩
    subst hj;rw [List.getElem_append_right aab];simp only [Nat.add_sub_cancel_left,agV];intro e;apply hb;rw [<-e];exact OF _
   have arb: ¬((((a++47::b)[i]).toNat:Int)=47):=by intro e;apply eR;apply ak2.1;show _=47;omega
   rw [if_neg arb,wrap64 aab aab];exact .mk (by grind)
 unfold jT;have h47:(((([47]:List UInt8).getD (AS 0) 0).toNat:Nat):Int)=47:=abq
 rw [h47];unfold eN;have hlen:((a++47::b).length:Int)-1=(((a++47::b).length-1:Nat):Int):=by simp;omega
 rw [hlen,wrap64 aab aab,dR];rfl
def P1 {p:List UInt8}(h:nX p=true): ∃r,p=47::r:=by
 cases p with
 |nil=>grind [nX]
 |cons x r=>grind [nX]
theorem Km {p:List UInt8}(h:nX p=true)(h1:p≠[47]): ∃L x,aC p=L++[x]/\p=L.flatMap ((47:UInt8)::·)++47::x/\(47:UInt8)∉x:=by
 obtain ⟨r,rfl⟩:=P1 h;have hn:aC (47::r)=bY 47 r:=by simp [aC,h1]
 have VO:=rz (vL (c:=47) r);refine ⟨_,_,by rw [hn];exact VO.symm,?_,(by grind [ajn])⟩;have:=GM (c:=47) r;grind
def SF (p:List UInt8):pX p=some (if bk p then (if p=[47] then ([],6) else (mP (aC p).dropLast,0)) else ([],13)):=by
 unfold pX;rw [zW,ak];cases h:bk p with
 |false=>simp
 |true=>
  have ⟨h1,h2,h3,h4⟩:=cN h;simp;by_cases hp:p=[47]
  .grind
  .rw [if_neg hp,if_neg hp];have ⟨L,x,e1,e2,e3⟩:=Km h2 hp;rw [e1,List.dropLast_concat];rw [e2] at h1⊢;rw [Vl e3 aab,ak];generalize hJ:L.flatMap ((47:UInt8)::·)=J at h1;have hm:imax 1 (J.length:Int)=((max 1 J.length:Nat):Int):=by unfold imax;split<;>omega
   rw [hm,if_pos (by grind)];simp;unfold mP;cases L with
   |nil=>grind
   |cons a L=>grind
theorem zX {p:List UInt8}(h:bk p=true):((aC p).length=0↔p=[47]):=by have ⟨h1,h2,h3,h4⟩:=cN h;grind [Km,aC]
theorem Ym {p:List UInt8}(h:nX p=true)(k:Nat):(((aC p).take k).flatMap ((47:UInt8)::·)).length<=p.length:=by
 by_cases hp:p=[47]
 .grind [aC]
 .obtain ⟨r,rfl⟩:=P1 h;grind [aC,bY,GM,No,IT]
def BH (p:List UInt8):nE p=some (if bk p then (if p=[47] then ([],6) else (mP (aC p).dropLast,0)) else ([],13)):=by
 unfold nE;rw [yu,ak];cases h:bk p with
 |false=>simp
 |true=>
  have ⟨h1,h2,h3,h4⟩:=cN h;simp only [if_true,decide_true,akn,afF,if_false];by_cases hp:p=[47]
  .rw [if_pos hp,if_pos (by grind [zX])]
  .have eR: ¬(aC p).length=0:=(by grind [zX])
   rw [if_neg hp,if_neg aab,wrap64 aab aab,if_pos (by grind)];grind [afK,anf,Ym,aC,ak]
def aaL (a b:List (List UInt8))(hl:a.length<2^60):ub a b=some (decide (a=b)):=by
 unfold ub;by_cases he:a.length=b.length
 .rw [Sf he (λk ha hb=>by
   unfold yJ;rw [if_pos aab,aI ha,aI hb,wrap64 aab aab];grind) (by
   simp_all [yJ,if_neg]),ak]
  grind
 .have:decide ((a.length:Int)=(b.length:Int))=false:=(by grind)
  rw [this];have hab:a≠b:=λe=>he (by rw [e]);simp [hab]
theorem Vm (a:List UInt8):afy a a=false:=by
 induction a with
 |nil=>rfl
 |cons x a ih=>simp [afy,ih]
def asa (a b:List UInt8):afy a b=true\/a=b\/afy b a=true:=by
 induction a generalizing b with
 |nil=>cases b<;>simp [afy]
 |cons x a ih=>
  cases b with
  |nil=>simp [afy]
  |cons y b=>simp only [afy,akp,decide_eq_true_eq,afA,beq_iff_eq,akC];grind
theorem Yn {a b c:List UInt8}(h1:afy a b=true)(h2:afy b c=true):afy a c=true:=by
 induction a generalizing b c with
 |nil=>
  cases b with
  |nil=>grind
  |cons y b=>cases c with
   |nil=>grind [afy]
   |cons z c=>rfl
 |cons x a ih=>
  cases b with
  |nil=>grind [afy]
  |cons y b=>
   cases c with
   |nil=>grind [afy]
   |cons z c=>simp only [afy,akp,decide_eq_true_eq,afA,beq_iff_eq,UInt8.lt_iff_toNat_lt] at h1 h2⊢;grind
def rI:List (List UInt8)->List (List UInt8)->Bool
 |[],[]=>false
 |[],_::_=>true
 |_::_,[]=>false
 |a::x,b::y=>afy a b||(decide (a=b)&&rI x y)
theorem ED (a:List (List UInt8)):rI a a=false:=by
 induction a with
 |nil=>rfl
 |cons x a ih=>simp [rI,Vm,ih]
def acA (a b:List (List UInt8)):rI a b=true\/a=b\/rI b a=true:=by
 induction a generalizing b with
 |nil=>cases b<;>simp [rI]
 |cons x a ih=>
  cases b with
  |nil=>simp [rI]
  |cons y b=>simp only [rI,akp,decide_eq_true_eq,afA,akC];rcases asa x y with h|rfl|h;all_goals grind
theorem Kn {a b c:List (List UInt8)}(h1:rI a b=true)(h2:rI b c=true):rI a c=true:=by
 induction a generalizing b c with
 |nil=>
  cases b with
  |nil=>grind
  |cons y b=>cases c with
   |nil=>grind [rI]
   |cons z c=>rfl
 |cons x a ih=>
  cases b with
  |nil=>grind [rI]
  |cons y b=>
   cases c with
   |nil=>grind [rI]
   |cons z c=>
    simp only [rI,akp,decide_eq_true_eq,afA] at h1 h2⊢;rcases h1 with h1|⟨rfl,h1⟩
    .grind [Yn]
    grind
theorem ajp {a b:List (List UInt8)}(h:rI a b=true):rI b a=false:=by grind [Kn,ED]
def It (a x y:List (List UInt8)):rI (a++x) (a++y)=rI x y:=by
 induction a with
 |nil=>rfl
 |cons z a ih=>simp [rI,Vm,ih]
def km (a b:List (List UInt8)):Bool:=decide (a.length<b.length)&&decide (a=b.take a.length)
def ajq {a b:List (List UInt8)}(h:km a b=true):rI a b=true:=by
 unfold km at h;simp at h;have hb:b=a++b.drop a.length:=by have:=No a.length b;rw [<-h.2] at this;exact this.symm
 rw [hb];have:=It a [] (b.drop a.length);rw [ahs] at this;rw [this];cases hq:b.drop a.length with
 |nil=>grind
 |cons=>rfl
def ang {a b c:List (List UInt8)}(h1:rI a b=true)(h2:rI b c=true)(h3:km a c=true):km a b=true:=by
 induction a generalizing b c with
 |nil=>grind [rI,km]
 |cons x a ih=>
  cases c with
  |nil=>grind [km]
  |cons z c=>
   cases b with
   |nil=>grind [rI]
   |cons y b=>
    have h3':x=z/\km a c=true:=by simp only [km,sh,akD,akC,afA,decide_eq_true_eq] at h3;exact ⟨h3.2.1,by simp only [km,afA,decide_eq_true_eq];grind⟩
    have ⟨rfl,h3'⟩:=h3';simp only [rI,akp,decide_eq_true_eq,afA] at h1 h2;have hxy:x=y/\rI a b=true/\rI b c=true:=by
     rcases h1 with h1|⟨rfl,h1⟩
     .grind [Yn,Vm]
     .rcases h2 with h2|⟨_,h2⟩
      .grind [Vm]
      grind
    have ⟨rfl,g1,g2⟩:=hxy;have:=ih g1 g2 h3';simp only [km,sh,akD,akC,afA,decide_eq_true_eq] at this⊢;grind
def cmp_eq (x y:List UInt8):jS x y=some (if afy x y then-1 else if x=y then 0 else 1):=by unfold jS lS;simp;grind
def aaM (a b:List (List UInt8))(hl:a.length<2^60): ∃n,gz a b=some n/\decide (n<0)=rI a b:=by
 have ⟨r,e,hr⟩: ∃r,Loop (e9 a b) 0=some r/\(match r with| .inl ()=>rI a b=decide (a.length<b.length)| .inr n=>decide (n<0)=rI a b):=by
  refine aM.count (λk=>(k:Int)) a.length (λk=>a.take k=b.take k/\k<=b.length) rfl ⟨rfl,aab⟩ (λk hk hp=> ?_) (λhp=> ?_)
  .have dX:rI a b=rI (a.drop k) (b.drop k):=by have:=It (a.take k) (a.drop k) (b.drop k);rw [No,hp.1,No] at this;exact this
   have hda:a.drop k=a[k]::a.drop (k+1):=(by simp_all)
   unfold e9;rw [if_pos aab,aI hk];by_cases hb:b.length<=k
   .rw [if_pos aab];refine .mk ?_;grind [decide,rI,List.drop_eq_nil_of_le]
   .have hb:k<b.length:=aab
    have hdb:b.drop k=b[k]::b.drop (k+1):=afI hb;rw [if_neg aab,aI hb,cmp_eq,ak];rw [hda,hdb] at dX;simp only [rI] at dX;by_cases h1:afy a[k] b[k]=true
    .simp_all;refine .mk ?_;grind
    .rw [Bool.not_eq_true] at h1;by_cases h2:a[k]=b[k]
     .have hc:(if afy a[k] b[k]=true then (-1:Int) else if a[k]=b[k] then 0 else 1)=0:=by rw [h1,if_neg abq,if_pos h2]
      rw [hc,if_neg abq];rw [wrap64 aab aab];refine .mk ⟨aab,?_,aab⟩;rw [take_succ hk,take_succ hb,hp.1,h2]
     .simp_all;refine .mk ?_;grind
  .unfold e9;rw [if_neg aab];refine .mk ?_;show rI a b=decide (a.length<b.length);have:=It (a.take a.length) (a.drop a.length) (b.drop a.length);rw [No,hp.1,No,List.drop_length] at this;rw [this];cases hd:b.drop a.length with
   |nil=>have:=congrArg al3 hd;symm;apply decide_eq_false;grind
   |cons x y=>symm;apply decide_eq_true;grind
 unfold gz;rw [e,ak];cases r with
 |inl u=>
  by_cases h:a.length<b.length
  .simp_all
  .rw [if_neg aab];grind
 |inr n=>grind
def EE (p:List UInt8): ∃l,je p=some (l,bk p)/\(bk p=true->l=aC p):=by
 rw [P0];unfold bk;cases nX p&&decide (p.length<=100) with
 |false=>grind
 |true=>grind
def sU (p q:List UInt8):Bool:=bk p&&(bk q&&rI (aC p) (aC q))
def xu (p q:List UInt8):Bool:=bk p&&(bk q&&km (aC p) (aC q))
def ajr (p q:List UInt8):wc p q=some (sU p q):=by
 unfold wc;have ⟨l,e1,h1⟩:=EE p;have ⟨m,e2,h2⟩:=EE q;rw [e1,ak,e2,ak,Se];unfold sU;cases hp:bk p with
 |false=>rfl
 |true=>
  cases hq:bk q with
  |false=>rfl
  |true=>have ⟨n,e3,h3⟩:=aaM (aC p) (aC q) (by have:=(cN hp).2.2.1;omega);simp_all
def aeH (a b:List (List UInt8))(hl:a.length<2^60):ji a b=some (decide (a=b)):=by
 unfold ji;by_cases he:a.length=b.length
 .rw [Sf he (λk ha hb=>by
   unfold nD;rw [if_pos aab,aI ha,aI hb,wrap64 aab aab];grind) (by
   simp_all [nD,if_neg]),ak]
  grind
 .have:decide ((a.length:Int)=(b.length:Int))=false:=(by grind)
  rw [this];have hab:a≠b:=λe=>he (by rw [e]);simp [hab]
def Yo (p q:List UInt8):pI p q=some (xu p q):=by
 unfold pI;have ⟨l,e1,h1⟩:=EE p;have ⟨m,e2,h2⟩:=EE q;rw [e1,ak,e2,ak,Se];unfold xu;cases hp:bk p with
 |false=>rfl
 |true=>
  cases hq:bk q with
  |false=>rfl
  |true=>
   rw [h1 hp,h2 hq];simp only [if_true,agK,km];by_cases dX:(aC p).length<(aC q).length
   .rw [if_pos aab,if_pos (by grind)];rw [aeH _ _ (by have:=(cN hp).2.2.1;omega),ak];simp [dX]
   grind
theorem P2 {p:List UInt8}(h:nX p=true):mP (aC p)=p:=by
 by_cases hp:p=[47]
 .subst hp;rfl
 .obtain ⟨r,rfl⟩:=P1 h;simp_all [aC,bY,mP,if_neg,vL,GM]
def Ko {p q:List UInt8}(hp:nX p=true)(hq:nX q=true)(h:aC p=aC q):p=q:=by grind [P2]
theorem Vn {x:List UInt8}(h:iV x=true):(47:UInt8)∉x/\x≠[]:=by unfold iV at h;simp only [afA,decide_eq_true_eq] at h;refine ⟨λhm=> ?_,h.1⟩;have:=afH.1 h.2.2 _ hm;exact absurd this abq
def BI {L:List (List UInt8)}(h:L.all iV=true):aC (mP L)=L/\nX (mP L)=true/\(L≠[]->mP L≠[47]):=by
 cases L with
 |nil=>exact ⟨rfl,rfl,λh=>absurd rfl h⟩
 |cons a L=>
  have ha:=Vn (afH.1 h a abu);have hm:mP (a::L)=47::(a++L.flatMap ((47:UInt8)::·)):=by simp [mP]
  have eR:mP (a::L)≠[47]:=by
   rw [hm];intro e;have:a++L.flatMap ((47:UInt8)::·)=[]:=by simpa using e
   exact ha.2 (List.append_eq_nil_iff.1 this).1
  refine ⟨?_,by grind [nX],λ_=>eR⟩;unfold aC;grind [aaI,Vn,afH,mP]
def Iu (p name:List UInt8):List UInt8:=(if p.getLast? =some 47 then p.dropLast else p)++[47]++name
def anh {p:List UInt8}(h:nX p=true)(hn:(aC p).all iV=true)(name:List UInt8):Iu p name=(aC p++[name]).flatMap ((47:UInt8)::·):=by
 by_cases hp:p=[47]
 .grind [Iu,aC]
 .have ⟨L,x,e1,e2,e3⟩:=Km h hp;rw [e1] at hn⊢;have hx:=Vn (afH.1 hn x abu);have WV: ¬p.getLast? =some 47:=by rw [e2,List.getLast?_append,List.getLast?_cons,akx hx.2];simp only [Option.getD_some,Option.some_or,aks];intro e;exact (by grind)
  simp_all [Iu,if_neg,akE]
def aaN {p name:List UInt8}(hp:bk p=true)(hx:iV name=true):aC (Iu p name)=aC p++[name]/\nX (Iu p name)=true/\Iu p name=mP (aC p++[name])/\Iu p name≠[47]:=by
 have ⟨h1,h2,h3,h4⟩:=cN hp;have uw:(aC p++[name]).all iV=true:=by simp [h4,hx]
 have e:Iu p name=mP (aC p++[name]):=by rw [anh h2 h4,mP,if_neg abu]
 have ⟨g1,g2,g3⟩:=BI uw;grind
def aeI (q:List UInt8):bk q=true↔nX q=true/\q.length<=100/\(aC q).length<=8/\(aC q).all iV=true:=by unfold bk;grind
def aeJ {x:List UInt8}(h:iV x=true):x.length<=30:=by simp_all [iV,afA,decide_eq_true_eq]
theorem aaO {p:List UInt8}(h:bk p=true)(k:Nat):bk (mP ((aC p).take k))=true/\aC (mP ((aC p).take k))=(aC p).take k:=by
 have ⟨h1,h2,h3,h4⟩:=cN h;have uw:((aC p).take k).all iV=true:=by rw [afH] at h4⊢;exact (by grind)
 have ⟨g1,g2,_⟩:=BI uw;refine ⟨(aeI _).2 ⟨g2,?_,?_,?_⟩,g1⟩;all_goals grind [mP,ahQ,Ym,IN]
def Lf (p q:List UInt8):zp p q=some (sU p q):=by
 unfold zp sU;rw [yu,ak,yu,ak];cases hp:bk p with
 |false=>simp [ak]
 |true=>
  cases hq:bk q with
  |false=>simp [ak]
  |true=>
   have ⟨_,_,hp3,_⟩:=cN hp;simp;generalize aC p=a at *;generalize aC q=b at *;have ⟨r,e,hr⟩: ∃r,Loop (yd (a,0) (b,0)) 0=some r/\(match r with| .inl ()=>rI a b=decide (a.length<b.length)| .inr c=>c=rI a b):=by
    refine aM.count (λk=>(k:Int)) (min a.length b.length) (λk=>a.take k=b.take k) rfl rfl (λk hk hp=> ?_) (λhp=> ?_)
    .have ha:k<a.length:=aab
     have hb:k<b.length:=aab
     have dX:rI a b=rI (a.drop k) (b.drop k):=by have:=It (a.take k) (a.drop k) (b.drop k);rw [No,hp,No] at this;exact this
     rw [afI ha,afI hb] at dX;simp only [rI] at dX;unfold yd;dsimp only;rw [if_pos aab,ak,decide_eq_true aab,if_pos rfl,aI ha,aI hb];by_cases h2:a[k]=b[k]
     .simp_all;rw [wrap64 aab aab];refine .mk ⟨aab,?_⟩;grind [take_succ]
     .simp only [h2,decide_false,agO,if_true,aI ha,aI hb];refine .mk ?_;grind
    .unfold yd;have hw:(if ((min a.length b.length:Nat):Int)<(a.length:Int) then some (decide (((min a.length b.length:Nat):Int)<(b.length:Int))) else some false)=some false:=by
      split
      .grind
      .rfl
     rw [hw,ak,if_neg abq];refine .mk ?_;have:=It (a.take (min a.length b.length)) (a.drop (min a.length b.length)) (b.drop (min a.length b.length));rw [No,hp,No] at this;rw [this];by_cases hlen:a.length<b.length
     .cases hd:b.drop a.length with
      |nil=>have:=congrArg al3 hd;grind
      |cons x y=>grind [rI]
     .cases hd:a.drop b.length with
      |nil=>grind [rI]
      |cons x y=>grind [rI]
   rw [e,ak];grind
@[reducible] def toR (n : ab) : aW := ⟨n.Path, n.Value, n.Version, n.dt⟩
def c9 (s:ax):bm:=⟨s.L.map toR⟩
def vu (l:List (List UInt8))(p:List UInt8):Int:=match l.findIdx? (λx=>decide (x=p)) with
 |some k=>k
 |none=> -1
theorem Yp {l:List (List UInt8)}{p:List UInt8}(h: ∀x∈l,x≠p):vu l p= -1:=by grind [vu,decide,List.findIdx?_eq_none_iff]
theorem P3 {l:List (List UInt8)}{p:List UInt8}{k:Nat}(hk:k<l.length)(h:l[k]=p)(hf: ∀j (hj:j<k),l[j]≠p):vu l p=k:=by
 unfold vu;have:l.findIdx? (λx=>decide (x=p))=some k:=by rw [afT];exact (by grind)
 rw [this]
def aph (s:bm)(p:List UInt8)(hl:s.L.length<2^40):wB s p=some (vu (s.L.map (·.Path)) p):=by
 have ⟨r,e,hr⟩: ∃r,Loop (HA s p) 0=some r/\(match r with| .inl ()=>vu (s.L.map (·.Path)) p= -1| .inr n=>vu (s.L.map (·.Path)) p=n):=by
  refine aM.count (λk=>(k:Int)) s.L.length (λk=> ∀j (h:j<s.L.length),j<k->(s.L[j]).Path≠p) rfl (λj _ h=>aab) (λk hk hp=> ?_) (λhp=> ?_)
  .unfold HA;rw [if_pos aab,aI hk];by_cases hh:(s.L[k]).Path=p
   .rw [if_pos hh];refine .mk ?_;grind [P3]
   .rw [if_neg hh,wrap64 aab aab];refine .mk ⟨aab,λj h hj=> ?_⟩;by_cases hjk:j=k
    .subst hjk;exact hh
    .exact hp j h aab
  .unfold HA;rw [if_neg aab];refine .mk ?_;grind [Yp,BY]
 grind [wB,ak]
def Vo {l:List (List UInt8)}{p:List UInt8}(h:0<=vu l p):(vu l p).toNat<l.length:=by grind [vu,decide,afT]
def cC (p:List UInt8):List UInt8×Int:=if bk p then (if p=[47] then ([],6) else (mP (aC p).dropLast,0)) else ([],13)
def Lg (L:List ab):(L.map toR).map (·.Path)=L.map (·.Path):=by simp_all
def FA {α τ:Type}{L:List α}{t:τ}{cmp:α->τ->Option Int}{g:α->Int}{i0:Nat}(hl:L.length<2^60)(hc: ∀a∈L,cmp a t=some (g a))(hi:i0<=L.length)(uU: ∀k (hk:k<L.length),k<i0->g L[k]<0)(B3: ∀k (hk:k<L.length),i0<=k->0<=g L[k]): bsearch L t cmp=some ((i0:Int),match L[i0]? with|some a=>decide (g a=0)|none=>false):=by
 have dR:Loop (bsL L t cmp) (0,(L.length:Int))=some (i0:Int):=by
  refine aM.eq (aM.loop (λst=> ∃i j:Nat,st=((i:Int),(j:Int))/\i<=i0/\i0<=j/\j<=L.length) (λst=>(st.2-st.1).toNat) ⟨0,L.length,rfl,amd _,hi,agG _⟩ ?_);rintro st ⟨i,j,rfl,hi,hj,M7⟩;unfold bsL;by_cases dX:i<j
  .have hm:(i+j)/2<L.length:=aab
   simp only [show ((i:Int)<(j:Int)) by omega,if_true,show ((0:Int)<=1) by decide,ahY (by omega:i+j<2^62),aI hm,hc _ (OF hm),ak];by_cases hlb:(i+j)/2<i0
   .simp_all;rw [wrap64 aab aab];exact .mk ⟨⟨(i+j)/2+1,j,abu,aab,hj,M7⟩,aab⟩
   .have hk:=B3 _ hm aab;have: ¬g L[(i+j)/2]<0:=aab
    simp only [this,if_false,ak];exact .mk ⟨⟨i,(i+j)/2,rfl,hi,aab,aab⟩,aab⟩
  .simp only [show¬((i:Int)<(j:Int)) by omega,if_false];exact .mk (by grind)
 unfold bsearch;rw [dR];by_cases dX:i0<L.length
 .simp only [show ((i0:Int)<(L.length:Int)) by omega,if_true,aI dX,hc _ (OF dX),ak,By dX]
 .simp only [show¬((i0:Int)<(L.length:Int)) by omega,if_false,ak,List.getElem?_eq_none (by omega:L.length<=i0)]
def Yq (s:ax)(p:List UInt8):fZ s p=bsearch s.L p ck:=by show bd (bsearch s.L p ck) (λrA=>some (rA.1,rA.2))=_;cases bsearch s.L p ck<;>rfl
theorem P4 (n:ab)(p:List UInt8):ck n p=some (if n.Path=p then 0 else if sU n.Path p then-1 else 1):=by unfold ck;rw [ajr,ak];grind
def pS (L:List ab):Prop:=(∀n∈L,bk n.Path=true)/\L.Pairwise λa b=>rI (aC a.Path) (aC b.Path)=true
def P5 {L:List ab}(h:pS L)(t:List (List UInt8)): ∃i0,i0<=L.length/\(∀k (hk:k<L.length),k<i0->rI (aC (L[k]).Path) t=true)/\ ∀k (hk:k<L.length),i0<=k->rI (aC (L[k]).Path) t=false:=by
 replace h:=h.2
 induction L with
 |nil=>simp_all
 |cons a l ih=>
  have h':=alD.1 h;cases ha:rI (aC a.Path) t with
  |true=>have ⟨p,h1,h2,h3⟩:=ih h'.2;refine ⟨p+1,by simp;omega,λk hk hkp=> ?_,λk hk hkp=> ?_⟩;all_goals grind
  |false=>
   refine ⟨0,amd _,λk hk hkp=>aab,λk hk _=> ?_⟩;cases k with
   |zero=>exact ha
   |succ k=>grind [Kn]
def Yr {s:ax}(hs:pS s.L)(hl:s.L.length<2^40){p:List UInt8}(hp:bk p=true): ∃i0:Nat,i0<=s.L.length/\fZ s p=some ((i0:Int),decide (0<=vu (s.L.map (·.Path)) p))/\ (0<=vu (s.L.map (·.Path)) p->vu (s.L.map (·.Path)) p=i0)/\(∀k (hk:k<s.L.length),k<i0->rI (aC (s.L[k]).Path) (aC p)=true)/\ ∀k (hk:k<s.L.length),i0<=k->rI (aC (s.L[k]).Path) (aC p)=false:=by
 have ⟨i0,h1,h2,h3⟩:=P5 hs (aC p);have hah: ∀n∈s.L,sU n.Path p=rI (aC n.Path) (aC p):=λn hn=>by unfold sU;rw [hs.1 n hn,hp];rfl
 have eR: ∀k (hk:k<s.L.length),k<i0->(s.L[k]).Path≠p:=(by grind [ED])
 have VN:=FA (L:=s.L) (t:=p) (cmp:=ck) (g:=λn=>if n.Path=p then 0 else if sU n.Path p then-1 else 1) (i0:=i0) aab (by grind [P4]) h1 (by grind) (by grind);have Qz:0<=vu (s.L.map (·.Path)) p->vu (s.L.map (·.Path)) p=i0/\ ∃hk:i0<s.L.length,(s.L[i0]).Path=p:=by
  intro h0;have dX:=Vo h0;rw [bD] at dX;obtain ⟨k,hk,hkp,hkf⟩: ∃k,∃hk:k<s.L.length,(s.L[k]).Path=p/\vu (s.L.map (·.Path)) p=k:=by
   unfold vu at h0⊢;cases hf:(s.L.map (·.Path)).findIdx? (λx=>decide (x=p)) with
   |none=>grind
   |some k=>have hf':=hf;rw [afT] at hf';grind
  have ZJ:k=i0:=by
   rcases af2 k i0 with h|h|h
   .grind
   .exact h
   .have hi:i0<s.L.length:=aab
    have:=akT.1 hs.2 i0 k hi hk h;grind
  subst ZJ;exact ⟨hkf,hk,hkp⟩
 rw [Yq,VN];by_cases h0:0<=vu (s.L.map (·.Path)) p
 .grind
 .by_cases hk:i0<s.L.length
  .have hnp:(s.L[i0]).Path≠p:=by
    intro he;apply h0;have:vu (s.L.map (·.Path)) p=i0:=(by grind [P3])
    rw [this];omega
   grind
  grind
def acB:ab:=⟨[],[],0,0⟩
def bR (L:List ab)(p:List UInt8):Int×Int:=if bk p then (if 0<=vu (L.map (·.Path)) p then (vu (L.map (·.Path)) p,0) else (0,6)) else (0,13)
def find_eq {s:ax}(hs:pS s.L)(hl:s.L.length<2^40)(p:List UInt8):iq s p=some (bR s.L p):=by
 unfold iq bR;rw [zW,ak];cases hp:bk p with
 |false=>rfl
 |true=>have ⟨i0,_,h1,h2,_⟩:=Yr hs hl hp;rw [if_neg abq,h1,ak,if_pos rfl];grind
def ea (L:List ab)(p:List UInt8):ab×Int:=if (bR L p).2=0 then ((L[(bR L p).1.toNat]?).getD acB,0) else (acB,(bR L p).2)
def Vp {L:List ab}{p:List UInt8}(h:(bR L p).2=0):0<=(bR L p).1/\(bR L p).1.toNat<L.length:=by
 unfold bR at h⊢;cases hp:bk p with
 |false=>grind
 |true=>
  by_cases h0:0<=vu (L.map (·.Path)) p
  .simp only [if_true,h0];exact ⟨trivial,by simpa using Vo h0⟩
  grind
theorem get_eq {s:ax}(hs:pS s.L)(hl:s.L.length<2^40)(p:List UInt8):su s p=some (ea s.L p):=by
 unfold su ea;rw [find_eq hs hl,ak];by_cases h:(bR s.L p).2=0
 .simp_all [Vp,decide_eq_true,if_neg,if_pos,AD,By]
 .rw [decide_eq_false h,if_pos abq,if_neg h];rfl
def aaP {x p:List UInt8}(hx:bk x=true)(hp:bk p=true):((cC x).2=0/\(cC x).1=p)↔(km (aC p) (aC x)=true/\(aC x).length=(aC p).length+1):=by
 have ⟨x1,x2,x3,x4⟩:=cN hx;have ⟨p1,p2,p3,p4⟩:=cN hp;unfold cC;rw [hx];by_cases h0:x=[47]
 .simp_all [aC,zX,if_true,absurd]
 .have hn: ¬(aC x).length=0:=(by grind [zX])
  simp only [if_true,h0,if_false,true_and];have uw:(aC x).dropLast.all iV=true:=by rw [afH] at x4⊢;exact (by grind [akw,afK])
  have ⟨g1,g2,_⟩:=BI uw;constructor
  .intro h;have hnp:aC p=(aC x).dropLast:=by rw [<-h,g1]
   unfold km;rw [hnp,alv,afK];grind
  .rintro ⟨hb,hlen⟩;unfold km at hb;grind [aC,afK,Nat.add_sub_cancel,P2]
def DI (p:List UInt8)(n:ab):Bool:=decide ((cC n.Path).2=0/\(cC n.Path).1=p)
def Lh (n:ab):List UInt8:=(aC n.Path).getLastD []
def lq (L:List ab)(p:List UInt8):List (List UInt8):=(L.filter (DI p)).map Lh
def Kp (L:List ab)(p:List UInt8):(lq L p).length<=L.length:=by grind [lq,bD,afL]
def P6 {L:List ab}{p:List UInt8}{k:Nat}(hk:k<L.length):lq (L.take (k+1)) p=if DI p L[k] then lq (L.take k) p++[Lh L[k]] else lq (L.take k) p:=by grind [lq,take_succ,DI]
def ani {α R:Type}{l:List α}(h:l≠[])(hl:l.length<2^60)(d:α)(K:α->Option R):ix l (AT .i64 ((l.length:Int)-1)) K=K (l.getLastD d):=by have gq:0<l.length:=List.length_pos_iff.2 h;rw [wrap64 aab aab,show (l.length:Int)-1=((l.length-1:Nat):Int) by omega,aI aab];grind
def acC {s:ax}(hs:pS s.L)(hl:s.L.length<2^40)(p:List UInt8):zq (c9 s) p=some (lq s.L p):=by
 have hlen:(c9 s).L.length=s.L.length:=bD ..;have dR:Loop (AG (c9 s) p) (([]:List (List UInt8)),0)=some (lq s.L p):=by
  refine aM.eq (aM.count (λk=>(lq (s.L.take k) p,(k:Int))) s.L.length (λ_=>True) rfl trivial (λk hk _=> ?_) (λ_=> ?_))
  .have hkp:k<(c9 s).L.length:=by rw [hlen];exact hk
   have mq:(c9 s).L[k]=toR s.L[k]:=afv ..;have hr:=hs.1 _ (OF hk);have hkl:=Kp (s.L.take k) p;unfold AG;rw [if_pos aab,aI hkp,mq];rw [BH,ak];have hw:(if (cC (s.L[k]).Path).2=0 then some (decide ((cC (s.L[k]).Path).1=p)) else some false)=some (DI p s.L[k]):=by unfold DI;by_cases h:(cC (s.L[k]).Path).2=0<;>simp [h]
   show aM (bd (if (cC (s.L[k]).Path).2=0 then some (decide ((cC (s.L[k]).Path).1=p)) else some false) _) _;rw [hw,ak,wrap64 aab aab];have hsu:=P6 (p:=p) hk;cases hkb:DI p s.L[k] with
   |false=>exact .mk (by grind)
   |true=>
    rw [hkb,if_pos rfl] at hsu;have eR:aC (s.L[k]).Path≠[]:=by intro e;have h0:=(zX hr).1 (by rw [e];rfl);unfold DI cC at hkb;rw [hr,h0] at hkb;simp at hkb
    have h8:=(cN hr).2.2.1;rw [if_pos rfl,aI hkp,mq];rw [yu,ak,hr];simp only [if_true];rw [ani eR aab []];rw [if_pos (by grind),ak];exact .mk ⟨by rw [hsu];rfl,trivial⟩
  .unfold AG;rw [hlen,if_neg aab,ad1];exact .mk rfl
 simp_all [zq]
theorem zY {p:List UInt8}{n:ab}(hn:bk n.Path=true)(hp:bk p=true):DI p n=true↔(km (aC p) (aC n.Path)=true/\(aC n.Path).length=(aC p).length+1):=by simp_all [DI,decide_eq_true_eq,aaP]
theorem P7 {L:List ab}(hs:pS L){i j:Nat}(hi:i<L.length)(hj:j<L.length)(h:i<j):rI (aC (L[i]).Path) (aC (L[j]).Path)=true:=akT.1 hs.2 i j hi hj h
theorem ib {L:List ab}(hs:pS L){i:Nat}(hi:i<L.length):bk (L[i]).Path=true:=hs.1 _ (OF hi)
theorem aeK {L:List ab}(hs:pS L){p:List UInt8}{i:Nat}(hi:i<L.length)(hp:(L[i]).Path=p){j:Nat}(hj:j<L.length)(hji:j<=i):DI p L[j]=false:=by
 rw [akt];intro h;have Tf:bk p=true:=by rw [<-hp];exact ib hs hi
 have h1:=ajq ((zY (ib hs hj) Tf).1 h).1;by_cases he:j=i
 .subst he;rw [hp,ED] at h1;cases h1
 .have h2:=P7 hs hj hi aab;rw [hp] at h2;have:=Kn h1 h2;rw [ED] at this;cases this
def GO {L:List ab}(hs:pS L){p:List UInt8}{i:Nat}(hi:i<L.length)(hp:(L[i]).Path=p):lq (L.take (i+1)) p=[]:=by unfold lq;grind [akF,ak0,BY,IN,aeK]
def aeL {L:List ab}(hs:pS L){p:List UInt8}{i k:Nat}(hi:i<L.length)(hp:(L[i]).Path=p)(hk:k<L.length)(hik:i<k)(hb:xu p (L[k]).Path=false){j:Nat}(hj:j<L.length)(hkj:k<=j): xu p (L[j]).Path=false:=by
 rw [akt];intro h;have Tf:bk p=true:=by rw [<-hp];exact ib hs hi
 unfold xu at h hb;rw [Tf,ib hs hj] at h;rw [Tf,ib hs hk] at hb;by_cases he:j=k
 .grind
 .have h1:=P7 hs hi hk hik;rw [hp] at h1;have:=ang h1 (by grind [P7]) h;grind
theorem Ys {L:List ab}(hs:pS L){p:List UInt8}{i k:Nat}(hi:i<L.length)(hp:(L[i]).Path=p)(hk:k<L.length)(hik:i<k)(hb:xu p (L[k]).Path=false):lq (L.take k) p=lq L p:=by
 have Tf:bk p=true:=by rw [<-hp];exact ib hs hi
 have:(L.drop k).filter (DI p)=[]:=by rw [ak0];intro n hn asb;obtain ⟨j,hj,rfl⟩:=BY.1 hn;rw [ac4] at hj;rw [ahB] at asb;have h1:=aeL hs hi hp hk hik hb (j:=k+j) aab aab;have h2:=((zY (ib hs aab) Tf).1 asb).1;unfold xu at h1;rw [Tf,ib hs aab,h2] at h1;simp at h1
 grind [lq,No]
theorem MG {L:List ab}{p:List UInt8}(h:(bR L p).2=0):bk p=true/\ ∃i,∃hi:i<L.length,(bR L p).1=(i:Int)/\(L[i]).Path=p:=by
 unfold bR at h⊢;cases hp:bk p with
 |false=>grind
 |true=>
  by_cases h0:0<=vu (L.map (·.Path)) p
  .unfold vu at h0⊢;cases hf:(L.map (·.Path)).findIdx? (λx=>decide (x=p)) with
   |none=>grind
   |some k=>have hf':=hf;rw [afT] at hf';grind
  grind
def mQ (L:List ab)(p:List UInt8):List (List UInt8)×Int:=if (bR L p).2=0 then (lq L p,0) else ([],(bR L p).2)
theorem Li {l:List (List UInt8)}{n:Nat}(h:l.length=n+1):l.getLastD []=l[n]' aab:=by grind
theorem anj {s:ax}(hs:pS s.L)(hl:s.L.length<2^40)(p:List UInt8):wg s p=some (mQ s.L p):=by
 unfold wg mQ;rw [find_eq hs hl,ak];by_cases h:(bR s.L p).2=0;rotate_left
 .grind
 have ⟨hp,i,hi,hfi,hip⟩:=MG h;have ⟨_,_,hp8,_⟩:=cN hp;have hw:AT .i64 ((bR s.L p).1+1)=((i+1:Nat):Int):=by rw [hfi,wrap64 aab aab];omega
 rw [decide_eq_true h,if_neg abq,Yl,ak,hp,hw,if_pos aab,if_pos h];have hD:aec (AS (AT .i64 ((bR s.L p).1+1))) (aeY (AS (s.L.length:Int)) s.L)=s.L.drop (i+1):=by rw [hw];simp
 have dR:Loop (uZ s p (bR s.L p) (aC p,0)) (([]:List (List UInt8)),0)=some (lq s.L p):=by
  refine aM.eq (aM.count (λk=>(lq (s.L.take (i+1+k)) p,(k:Int))) (s.L.length-(i+1)) (λ_=>True) (by simp_all [Nat.add_zero,GO]) trivial (λk hk _=> ?_) (λ_=> ?_))
  .have ZJ:i+1+k<s.L.length:=aab
   have hr:=ib hs ZJ;have hkl:=Kp (s.L.take (i+1+k)) p;unfold uZ;rw [hD];have hkd:k<(s.L.drop (i+1)).length:=by rw [ac4];omega
   rw [if_pos aab,aI hkd,ahB,Yo,ak];cases hb:xu p (s.L[i+1+k]).Path with
   |false=>exact .mk (by grind [Ys])
   |true=>
    rw [if_neg abq,Yl,ak,hr];simp only [if_true];rw [wrap64 (x:=((aC p).length:Int)+1) aab aab,wrap64 aab aab];have hsu:=P6 (p:=p) ZJ;have hkb:=zY (n:=s.L[i+1+k]) hr hp;have KG:km (aC p) (aC (s.L[i+1+k]).Path)=true:=by unfold xu at hb;rw [hp,hr] at hb;simpa using hb
    by_cases hlen:(aC (s.L[i+1+k]).Path).length=(aC p).length+1
    .rw [if_pos aab,aI aab,if_pos (by grind),ak];refine .mk ⟨?_,trivial⟩;grind [Lh,Li]
    .rw [if_neg aab,ak];refine .mk ⟨?_,trivial⟩;grind
  .unfold uZ;rw [hD];rw [ac4,if_neg aab];refine .mk ?_;grind [List.take_of_length_le]
 simp_all
def zZ {s:ax}(hl:s.L.length<2^40)(p:List UInt8):ve (c9 s) p=some (toR (ea s.L p).1,(ea s.L p).2):=by
 have xO:(c9 s).L.length<2^40:=by show (s.L.map toR).length<_;rw [bD];exact hl
 unfold ve ea bR;rw [ul,ak];cases hp:bk p with
 |false=>rfl
 |true=>
  rw [aph _ _ xO,ak];have hpp:(c9 s).L.map (·.Path)=s.L.map (·.Path):=Lg s.L;rw [hpp];simp;by_cases h0:0<=vu (s.L.map (·.Path)) p
  .have dX:=Vo h0;rw [bD] at dX;rw [if_neg aab];simp only [h0,if_true];have awE:(vu (s.L.map (·.Path)) p).toNat<(c9 s).L.length:=by show _<(s.L.map toR).length;rw [bD];exact dX
   rw [AD h0 awE,By dX];have hg:(c9 s).L[(vu (s.L.map (·.Path)) p).toNat]=toR s.L[(vu (s.L.map (·.Path)) p).toNat]:=afv ..;rw [hg];rfl
  .rw [if_pos aab];simp only [h0,if_false];rfl
theorem Kq (L:List ab)(p:List UInt8):(ea L p).2=(bR L p).2:=by grind [ea,bR]
def aaQ {s:ax}(hs:pS s.L)(hl:s.L.length<2^40)(p:List UInt8):CT (c9 s) p=some (mQ s.L p):=by unfold CT mQ;rw [zZ hl,ak];rw [Kq];by_cases h:(bR s.L p).2=0;all_goals simp_all [decide_eq_true,if_neg,acC,ak,if_pos,decide_eq_false]
def aeM (L:List ab)(p:List UInt8):(mQ L p).1.length<=L.length:=by unfold mQ;by_cases h:(bR L p).2=0;all_goals simp_all [if_true,Kp]
theorem Iv {L:List ab}(hs:pS L){i j:Nat}(hi:i<L.length)(hj:j<L.length)(h:(L[i]).Path=(L[j]).Path):i=j:=by
 rcases af2 i j with h1|h1|h1
 .have:=P7 hs hi hj h1;grind [ED]
 .exact h1
 .have:=P7 hs hj hi h1;grind [ED]
theorem aaR {L:List ab}(hs:pS L){i:Nat}(hi:i<L.length):bR L (L[i]).Path=((i:Int),0):=by grind [bR,vu,P3,Iv,ib]
theorem aeN {L:List ab}(hs:pS L){i:Nat}(hi:i<L.length):ea L (L[i]).Path=(L[i],0):=by grind [ea,aaR,By]
def ajs {n:ab}{p:List UInt8}(hn:bk n.Path=true)(hp:bk p=true)(h:DI p n=true):iV (Lh n)=true/\Iu p (Lh n)=n.Path:=by
 have ⟨h1,h2⟩:=(zY hn hp).1 h;have ⟨n1,n2,n3,n4⟩:=cN hn;have hx:iV (Lh n)=true:=by unfold Lh;rw [Li h2];exact (by grind)
 refine ⟨hx,?_⟩;have ⟨j1,j2,j3,j4⟩:=aaN hp hx;refine Ko j2 n2 ?_;rw [j1];unfold km at h1;unfold Lh;have:aC n.Path=(aC n.Path).take (aC p).length++[(aC n.Path)[(aC p).length]' aab]:=by
  conv=>lhs;rw [<-No (aC p).length (aC n.Path)]
  congr 1;rw [afI aab,ag7 aab]
 grind
structure eP (L:List ab):Prop where
 len:L.length<=200
 ord:pS L
 root: ∃m∈L,m.Path=[47]
 xx: ∀n∈L,n.Value.length<=1000/\0<=n.Version/\n.Version<=1000000000/\0<=n.dt
 top: ∀n∈L,n.Path=[47]->n.dt=0
 grown: ∀n∈L,n.Path≠[47]-> ∃m∈L,m.Path=(cC n.Path).1/\m.dt=0
def aaS:aC [47]=[]:=by grind [aC]
def aaT {p:List UInt8}(h:bk p=true):(cC p).2=0↔p≠[47]:=by grind [cC]
theorem Yt {α:Type}(q:α->Bool)(l:List α):(l.filter q).length+(l.filter λn=>!q n).length=l.length:=by
 induction l with
 |nil=>rfl
 |cons a l ih=>grind
def p9 (owner:Int)(n:ab):Bool:=!(decide (0<owner)&&decide (n.dt=owner))
def yv {α:Type}(q:α->Bool){L:List α}{k:Nat}(hk:k<L.length):(L.take (k+1)).filter q=if q L[k] then (L.take k).filter q++[L[k]] else (L.take k).filter q:=by grind [take_succ]
def cb (L:List ab)(owner:Int):List ab×List (List UInt8):=(L.filter (p9 owner),(L.filter λn=>!p9 owner n).map (·.Path))
def drop_eq (s:ax)(owner:Int)(hl:s.L.length<2^40):wi s owner=some (⟨(cb s.L owner).1⟩,(cb s.L owner).2):=by
 have dR:Loop (qA s owner) (([]:List (List UInt8)),([]:List ab),0)=some ((cb s.L owner).2,(cb s.L owner).1):=by
  refine aM.eq (aM.count (λk=>((cb (s.L.take k) owner).2,(cb (s.L.take k) owner).1,(k:Int))) s.L.length (λ_=>True) rfl trivial (λk hk _=> ?_) (λ_=> ?_))
  .have l1:(cb (s.L.take k) owner).1.length<=k:=by unfold cb;have:=afL (p9 owner) (s.L.take k);rw [IN] at this;dsimp only;omega
   have l2:(cb (s.L.take k) owner).2.length<=k:=by unfold cb;have:=afL (λn=>!p9 owner n) (s.L.take k);rw [IN] at this;dsimp only;rw [bD];omega
   have e1:=yv (p9 owner) hk;have e2:=yv (λn=>!p9 owner n) hk;unfold qA;dsimp only;rw [if_pos aab,aI hk];have hw:(if (0:Int)<owner then some (decide ((s.L[k]).dt=owner)) else some false)=some (!p9 owner s.L[k]):=by unfold p9;by_cases h:(0:Int)<owner<;>simp [h]
   rw [hw,ak,wrap64 aab aab];cases fw:p9 owner s.L[k] with
   |true=>rw [if_neg abq,if_pos (by grind)];refine .mk ⟨?_,trivial⟩;grind [cb]
   |false=>rw [if_pos abq,if_pos (by grind)];refine .mk ⟨?_,trivial⟩;grind [cb]
  .unfold qA;dsimp only;rw [if_neg aab,ad1];exact .mk rfl
 simp_all [wi]
def acD {L M:List ab}(h:M.Sublist L)(hs:pS L):pS M:=⟨λn hn=>hs.1 n (h.subset hn),hs.2.sublist h⟩
theorem acE {L:List ab}(h:eP L)(owner:Int):eP (cb L owner).1:=by
 have jb:(L.filter (p9 owner)).Sublist L:=akG;have fw: ∀n∈L,n.dt=0->p9 owner n=true:=by
  intro n _ h0;unfold p9;rw [h0];by_cases hp:(0:Int)<owner
  .grind
  .simp [hp]
 refine ⟨ahQ jb.length_le h.len,acD jb h.ord,?_,λn hn=>h.xx n (jb.subset hn),λn hn=>h.top n (jb.subset hn),λn hn hr=> ?_⟩
 .have ⟨m,hm,hr⟩:=h.root;exact ⟨m,ak3.2 ⟨hm,fw m hm (h.top m hm hr)⟩,hr⟩
 .have ⟨m,hm,h1,h2⟩:=h.grown n (jb.subset hn) hr;exact ⟨m,ak3.2 ⟨hm,fw m hm h2⟩,h1,h2⟩
def ajt {L:List ab}(hs:pS L){a b:ab}(ha:a∈L)(hb:b∈L)(h:a.Path=b.Path):a=b:=by grind [BY,Iv]
def get_mem {L:List ab}(hs:pS L){n:ab}(h:n∈L):ea L n.Path=(n,0):=by grind [BY,aeN]
theorem ank {L:List ab}{q:List UInt8}(h: ∀n∈L,n.Path≠q):ea L q=(acB,if bk q then 6 else 13):=by grind [ea,bR,bk,vu,Yp]
def SH {L:List ab}(hs:pS L)(q:List UInt8):(∃n∈L,n.Path=q/\ea L q=(n,0))\/((∀n∈L,n.Path≠q)/\ea L q=(acB,if bk q then 6 else 13)):=by
 by_cases h: ∃n∈L,n.Path=q
 .obtain ⟨n,hn,rfl⟩:=h;exact .inl ⟨n,hn,rfl,get_mem hs hn⟩
 .grind [ank]
theorem aju (L:List ab)(p:List UInt8):(bR L p).2=0\/(bR L p).2=6\/(bR L p).2=13:=by grind [bR,bk,vu]
def ltQ (p:List UInt8)(n:ab):Bool:=rI (aC n.Path) (aC p)
def GP {q:ab->Bool}{L:List ab}{i:Nat}(hi:i<=L.length)(h1: ∀k (hk:k<L.length),k<i->q L[k]=true)(h2: ∀k (hk:k<L.length),i<=k->q L[k]=false): L.take i=L.takeWhile q/\L.drop i=L.dropWhile q:=by
 induction L generalizing i with
 |nil=>simp
 |cons a l ih=>
  cases i with
  |zero=>have:=h2 0 abu (agG _);simp_all
  |succ i=>have:=h1 0 abu aab;have ⟨e1,e2⟩:=ih (i:=i) (by simpa using hi) (λk hk ZJ=>by have:=h1 (k+1) (by simpa using hk) aab;rwa [agV] at this) (λk hk ZJ=>by have:=h2 (k+1) (by simpa using hk) aab;rwa [agV] at this);simp_all
def L6 (L:List ab)(n:ab):List ab:=L.takeWhile (ltQ n.Path)++n::L.dropWhile (ltQ n.Path)
theorem Vq {L:List ab}{n m:ab}:m∈L6 L n↔m=n\/m∈L:=by
 unfold L6;conv=>rhs;rhs;rw [<-agM (p:=ltQ n.Path) (l:=L)]
 grind
theorem anl (L:List ab)(n:ab):(L6 L n).length=L.length+1:=by unfold L6;have:=congrArg al3 (agM (p:=ltQ n.Path) (l:=L));grind
def aeO {α:Type}{q:α->Bool}{l:List α}{x:α}(h:x∈l.takeWhile q):x∈l/\q x=true:=by
 induction l with
 |nil=>simp at h
 |cons a l ih=>grind [List.takeWhile]
def anm {L:List ab}(hs:pS L){n:ab}(hn:bk n.Path=true)(ml: ∀m∈L,m.Path≠n.Path):pS (L6 L n):=by
 refine ⟨λm hm=> ?_,?_⟩
 .rcases Vq.1 hm with rfl|h
  .exact hn
  .exact hs.1 m h
 have hpw:(L.takeWhile (ltQ n.Path)++L.dropWhile (ltQ n.Path)).Pairwise λa b=>rI (aC a.Path) (aC b.Path)=true:=by rw [agM];exact hs.2
 rw [aky] at hpw;have ⟨p1,p2,p3⟩:=hpw;have hdr: ∀m∈L.dropWhile (ltQ n.Path),rI (aC n.Path) (aC m.Path)=true:=by
  intro m hm;have hmL:m∈L:=List.dropWhile_subset _ hm;have dX:ltQ n.Path m=false:=by obtain ⟨i0,h1,h2,h3⟩:=P5 hs (aC n.Path);have e:=(GP (q:=ltQ n.Path) h1 h2 h3).2;rw [<-e] at hm;obtain ⟨k,hk,rfl⟩:=BY.1 hm;rw [ac4] at hk;rw [ahB];exact h3 (i0+k) aab aab
  unfold ltQ at dX;rcases acA (aC m.Path) (aC n.Path) with h|h|h
  .grind
  .exact absurd (Ko (cN (hs.1 m hmL)).2.1 (cN hn).2.1 h) (ml m hmL)
  .exact h
 unfold L6;rw [aky];refine ⟨p1,(by simp_all),?_⟩;intro a ha b hb;have dX:rI (aC a.Path) (aC n.Path)=true:=(aeO ha).2;grind
def dM (L:List ab)(p value:List UInt8)(owner:Int):Int:=if bk p then (if 0<=vu (L.map (·.Path)) p then 7 else
  if (ea L (cC p).1).2=0 then (if (ea L (cC p).1).1.dt=0 then (if (1000:Int)<(value.length:Int) then 5 else if owner<0 then 1 else if (200:Int)<=(L.length:Int) then 9 else 0) else 10) else 6) else 13
def ic (L:List ab)(p value:List UInt8)(owner:Int):List ab×Int:=if dM L p value owner=0 then (L6 L ⟨p,value,0,owner⟩,0) else (L,dM L p value owner)
def aaU {s:ax}(hs:pS s.L)(hl:s.L.length<2^40){p:List UInt8}(value:List UInt8)(owner:Int)(hp:bk p=true): jh p (decide (0<=vu (s.L.map (·.Path)) p)) s value owner=some (dM s.L p value owner):=by
 unfold jh dM;rw [zW,ak,hp];by_cases h0:0<=vu (s.L.map (·.Path)) p
 .simp [h0]
 .rw [decide_eq_false h0,if_neg abq,if_neg h0,SF,ak,get_eq hs hl,ak];show (if !decide ((ea s.L (cC p).1).2=0) then _ else _)=_;by_cases h1:(ea s.L (cC p).1).2=0
  .rw [decide_eq_true h1,if_neg abq,if_pos h1];show (if !decide ((ea s.L (cC p).1).1.dt=0) then _ else _)=_;grind
  grind
def aaV {L:List ab}{p value:List UInt8}{owner:Int}(h:dM L p value owner=0):bk p=true/\ ¬0<=vu (L.map (·.Path)) p/\(ea L (cC p).1).2=0/\(ea L (cC p).1).1.dt=0/\value.length<=1000/\0<=owner/\L.length<200:=by unfold dM at h;grind
theorem ajv {L:List ab}{p:List UInt8}(h: ¬0<=vu (L.map (·.Path)) p): ∀n∈L,n.Path≠p:=by intro n hn he;apply h;unfold vu;grind
def aeP {s:ax}(hs:pS s.L)(hl:s.L.length<2^38)(p value:List UInt8)(owner:Int):oa s p value owner=some (⟨(ic s.L p value owner).1⟩,(ic s.L p value owner).2):=by
 unfold oa ic;cases hp:bk p with
 |false=>
  have he:dM s.L p value owner=13:=by unfold dM;rw [hp];rfl
  have hF: ∀b,jh p b s value owner=some 13:=by intro b;unfold jh;rw [zW,ak,hp];rfl
  have ⟨rb,hrb⟩: ∃rb,fZ s p=some rb:=by
   rw [Yq];refine ⟨_,FA (L:=s.L) (t:=p) (cmp:=ck) (g:=λn=>if n.Path=p then 0 else if sU n.Path p then-1 else 1) (i0:=0) aab (by grind [P4]) (amd _) (λk hk h=>aab) (λk hk _=> ?_)⟩;have:sU (s.L[k]).Path p=false:=by unfold sU;rw [hp];simp
   grind
  rw [hrb,ak,hF,ak,he];rfl
 |true=>
  have ⟨i0,h1,h2,h3,h4,h5⟩:=Yr hs aab hp;have ⟨e1,e2⟩:=GP (q:=ltQ p) h1 h4 h5;rw [h2,ak];rw [aaU hs aab value owner hp,ak];by_cases he:dM s.L p value owner=0
  .rw [decide_eq_true he,if_neg abq,if_pos he];unfold lD;rw [if_pos aab,ak];unfold uW;rw [if_pos (by grind),ak];grind [afB,L6]
  simp_all
def lr (L:List ab)(p:List UInt8)(version:Int):Int:=if (bR L p).2=0/\version≠ -1/\version≠(ea L p).1.Version then 8 else (bR L p).2
def acF {s:ax}(hs:pS s.L)(hl:s.L.length<2^40)(p:List UInt8)(version:Int):eK s p version=some ((bR s.L p).1,lr s.L p version):=by
 unfold eK lr;rw [find_eq hs hl,ak];by_cases h:(bR s.L p).2=0
 .have ⟨g1,g2⟩:=Vp h;rw [if_pos h];have hv:(ea s.L p).1=s.L[(bR s.L p).1.toNat]:=by unfold ea;rw [if_pos h,By g2];rfl
  by_cases h1:version= -1
  .simp_all
  .rw [decide_eq_false h1,if_pos abq,AD g1 g2,ak,hv];grind
 simp_all
theorem Iw {L:List ab}{p:List UInt8}{version:Int}(h:lr L p version=0):(bR L p).2=0:=by grind [lr]
def QL (L:List ab)(p value:List UInt8)(version:Int):Int:=if lr L p version=0 then (if (1000:Int)<(value.length:Int) then 5 else if (1000000000:Int)<=(ea L p).1.Version then 9 else 0) else lr L p version
def aeQ (x:ab)(value:List UInt8):ab:=⟨x.Path,value,x.Version+1,x.dt⟩
def uN (L:List ab)(p value:List UInt8)(version:Int):List ab×Int:=if QL L p value version=0 then (L.set (bR L p).1.toNat (aeQ (ea L p).1 value),0) else (L,QL L p value version)
theorem get_at {L:List ab}{p:List UInt8}(h:(bR L p).2=0): ∃hi:(bR L p).1.toNat<L.length,(ea L p).1=L[(bR L p).1.toNat]/\(ea L p).1.Path=p/\0<=(bR L p).1:=by
 have ⟨g1,g2⟩:=Vp h;have hv:(ea L p).1=L[(bR L p).1.toNat]:=by unfold ea;rw [if_pos h,By g2];rfl
 grind [MG,bR]
def asc {s:ax}(pF:eP s.L)(p value:List UInt8)(version:Int):zm s p value version=some (⟨(uN s.L p value version).1⟩,(uN s.L p value version).2):=by
 have hl:=pF.len;have hs:=pF.ord;unfold zm uN QL;rw [acF hs aab,ak];by_cases h:lr s.L p version=0;rotate_left
 .simp_all
 have ⟨g2,hv,_,g1⟩:=get_at (Iw h);have hfl:=pF.xx _ (OF g2);rw [decide_eq_true h,if_neg abq,if_pos h];by_cases h1:(1000:Int)<(value.length:Int)
 .simp [h1]
 .rw [if_neg h1,if_neg h1,AD g1 g2,hv];by_cases h2:(1000000000:Int)<=(s.L[(bR s.L p).1.toNat]).Version
  .simp_all
  .rw [if_neg h2,if_neg h2];unfold lD;rw [if_pos aab,ak,AD g1 g2,AD g1 (by grind),AD g1 (by grind)];simp;rw [wrap64 aab aab];rfl
def Yu (L:List ab)(p:List UInt8)(version:Int):Int:=if p=[47] then 13 else if lr L p version=0 then (if lq L p=[] then 0 else 10) else lr L p version
def uy (L:List ab)(p:List UInt8)(version:Int):List ab×Int:=if Yu L p version=0 then (L.take (bR L p).1.toNat++L.drop ((bR L p).1.toNat+1),0) else (L,Yu L p version)
def aeR {L:List ab}(pF:eP L){p:List UInt8}(hp:bk p=true): ∀(m:Nat) {n:ab},n∈L->(aC n.Path).length=m->km (aC p) (aC n.Path)=true-> ∃k∈L,DI p k=true:=by
 intro m;induction m with
 |zero=>simp_all [km,afA,decide_eq_true_eq]
 |succ m ih=>
  intro n hn hm hb;have hr:=pF.ord.1 n hn;by_cases h1:(aC n.Path).length=(aC p).length+1
  .grind [zY]
  .have mD:n.Path≠[47]:=by intro e;rw [e,aaS] at hm;simp at hm
   have ⟨x,hx,hxp,_⟩:=pF.grown n hn mD;have aly:(cC n.Path).1=mP (aC n.Path).dropLast:=by unfold cC;rw [hr];simp [mD]
   have uw:(aC n.Path).dropLast.all iV=true:=by obtain ⟨_,_,_,x4⟩:=cN hr;rw [afH] at x4⊢;exact (by grind [akw,afK])
   have hnx:aC x.Path=(aC n.Path).dropLast:=by rw [hxp,aly,(BI uw).1]
   refine ih hx (by grind) ?_;unfold km at hb⊢;grind [alv,afK,akB]
def aeS {L:List ab}(pF:eP L){p:List UInt8}{i:Nat}(hi:i<L.length)(hp:(L[i]).Path=p):lq L p=[]↔ ∀h:i+1<L.length,xu p (L[i+1]).Path=false:=by
 have hs:=pF.ord;have Tf:bk p=true:=by rw [<-hp];exact ib hs hi
 constructor
 .intro hk h;rw [akt];intro hb;unfold xu at hb;rw [Tf,ib hs h] at hb;have ⟨k,hkm,hkk⟩:=aeR pF Tf _ (OF h) rfl hb;have:k∈L.filter (DI p):=(by grind)
  grind [lq,akF]
 .intro h;by_cases h1:i+1<L.length
  .rw [<-Ys hs hi hp h1 aab (h h1),GO hs hi hp]
  .have:=GO hs hi hp;grind
def del_eq {s:ax}(pF:eP s.L)(p:List UInt8)(version:Int):qz s p version=some (⟨(uy s.L p version).1⟩,(uy s.L p version).2):=by
 have hl:=pF.len;have hs:=pF.ord;unfold qz uy Yu;rw [acF hs aab,ak];by_cases hp:p=[47]
 .simp_all
 rw [if_neg hp,if_neg hp];by_cases h:lr s.L p version=0;rotate_left
 .simp_all
 have ⟨g2,hv,hpa,g1⟩:=get_at (Iw h);rw [hv] at hpa;have hkn:=aeS pF g2 hpa;rw [decide_eq_true h,if_neg abq,if_pos h];have ⟨i,rG⟩: ∃i:Nat,(bR s.L p).1=(i:Int):=(by grind)
 rw [rG,wrap64 aab aab,show (i:Int)+1=((i+1:Nat):Int) by omega];have hw:(if ((i+1:Nat):Int)<(s.L.length:Int) then ix s.L ((i+1:Nat):Int) λy=>bd (pI p y.Path) λaO=>some aO else some false)=some (!decide (lq s.L p=[])):=by
  by_cases h1:i+1<s.L.length
  .rw [if_pos aab,aI h1,Yo,ak];grind
  .grind
 rw [hw,ak];by_cases hk:lq s.L p=[]
 .rw [decide_eq_true hk,if_neg abq,if_pos hk];unfold lD;rw [if_pos aab,ak];unfold D6;rw [if_pos (by grind),ak];simp
 simp_all
def Vr {p:List UInt8}(h:bk p=true)(h1:p≠[47]):bk (cC p).1=true:=by grind [cC,mP,aC,afK,aaO]
theorem fq (s:ax):(c9 s).L.length=s.L.length:=bD ..
def Ix {s:ax}(hl:s.L.length<2^40)(p:List UInt8):wB (c9 s) p=some (vu (s.L.map (·.Path)) p):=by rw [aph _ _ (by grind [fq])];have hpp:(c9 s).L.map (·.Path)=s.L.map (·.Path):=Lg s.L;rw [hpp]
def sV {s:ax}{k:Nat}(hk:k<s.L.length):(c9 s).L[k]'(by grind [fq])=toR s.L[k]:=afv ..
def at_root {L:List ab}(h:eP L):0<=vu (L.map (·.Path)) [47]:=by grind [h.root,vu,absurd,ajv]
def DJ (L:List ab)(i0:Nat)(n:ab)(k:Nat):List ab:=if k<=i0 then L.take k else L.take i0++n::(L.take k).drop i0
def Yv {L:List ab}{i0:Nat}{n:ab}{k:Nat}(hk:k<=L.length):(DJ L i0 n k).length<=k+1:=by grind [DJ,IN,IT,sh,ac4]
theorem Vs {s:ax}(pF:eP s.L)(p value:List UInt8)(owner:Int):wC (c9 s) p value owner=some (c9 ⟨(ic s.L p value owner).1⟩,(ic s.L p value owner).2):=by
 have hl:=pF.len;have hs:=pF.ord;unfold wC ic;rw [ul,ak];cases hp:bk p with
 |false=>
  have he:dM s.L p value owner=13:=by unfold dM;rw [hp];rfl
  rw [he];rfl
 |true=>
  rw [if_neg abq,Ix aab,ak];by_cases h0:0<=vu (s.L.map (·.Path)) p
  .have he:dM s.L p value owner=7:=by unfold dM;rw [hp];simp [h0]
   simp_all
  rw [if_neg h0,BH,ak];show bd (wB (c9 s) (cC p).1) _=_;rw [Ix aab,ak];have mD:p≠[47]:=λe=>h0 (by simp_all [at_root]);have hup:=Vr hp mD;have hfp:(ea s.L (cC p).1).2=0↔0<=vu (s.L.map (·.Path)) (cC p).1:=by rw [Kq];unfold bR;rw [hup];by_cases h:0<=vu (s.L.map (·.Path)) (cC p).1<;>simp [h]
  by_cases h1:0<=vu (s.L.map (·.Path)) (cC p).1;rotate_left
  .have he:dM s.L p value owner=6:=by unfold dM;rw [hp];simp only [if_true,h0,if_false,hfp,h1]
   simp_all
  have dX:=Vo h1;rw [bD] at dX;have hg:(ea s.L (cC p).1).1=s.L[(vu (s.L.map (·.Path)) (cC p).1).toNat]:=by
   have h0':=hfp.2 h1;rw [Kq] at h0';obtain ⟨g1,g2,_⟩:=get_at h0';rw [g2];have:(bR s.L (cC p).1).1=vu (s.L.map (·.Path)) (cC p).1:=by unfold bR;rw [hup];simp [h1]
   simp only [this]
  rw [if_neg aab,AD h1 (by grind [fq]),sV dX];by_cases h2:(s.L[(vu (s.L.map (·.Path)) (cC p).1).toNat]).dt=0;rotate_left
  .have he:dM s.L p value owner=10:=by unfold dM;rw [hp];simp only [if_true,h0,if_false,hfp,h1,hg,h2]
   simp_all
  rw [decide_eq_true h2,if_neg abq,fq];by_cases h3:(1000:Int)<(value.length:Int)
  .have he:dM s.L p value owner=5:=by unfold dM;rw [hp];simp only [if_true,h0,if_false,hfp,h1,hg,h2,h3]
   simp_all
  rw [if_neg h3];by_cases h4:owner<0
  .have he:dM s.L p value owner=1:=by unfold dM;rw [hp];simp only [if_true,h0,if_false,hfp,h1,hg,h2,h3,h4]
   simp_all
  rw [if_neg h4];by_cases h5:(200:Int)<=(s.L.length:Int)
  .have he:dM s.L p value owner=9:=by unfold dM;rw [hp];simp only [if_true,h0,if_false,hfp,h1,hg,h2,h3,h4,h5]
   simp_all
  have he:dM s.L p value owner=0:=by unfold dM;rw [hp];simp only [if_true,h0,if_false,hfp,h1,hg,h2,h3,h4,h5]
  rw [if_neg h5,if_pos he];have ⟨i0,i1,i2,i3⟩:=P5 hs (aC p);have ⟨e1,e2⟩:=GP (q:=ltQ p) i1 i2 i3;have hah: ∀k (hk:k<s.L.length),sU p (s.L[k]).Path=decide (i0<=k):=by
   intro k hk;unfold sU;rw [hp,ib hs hk];simp only [agK];by_cases ZJ:i0<=k
   .rw [decide_eq_true ZJ];rcases acA (aC (s.L[k]).Path) (aC p) with h|h|h
    .grind
    .exact absurd (Ko (cN (ib hs hk)).2.1 (cN hp).2.1 h) (ajv h0 _ (OF hk))
    .exact h
   .grind [decide_eq_false,ajp]
  have ⟨n,hn⟩: ∃n:ab,n=⟨p,value,0,owner⟩:=⟨_,rfl⟩
  have hnr:(⟨p,value,0,owner⟩:aW)=toR n:=by rw [hn]
  have dR:Loop (qI (c9 s) p value owner) (([]:List aW),false,0)=some ((DJ s.L i0 n s.L.length).map toR,decide (i0<s.L.length)):=by
   refine aM.eq (aM.count (λk=>((DJ s.L i0 n k).map toR,decide (i0<k),(k:Int))) s.L.length (λ_=>True) (by simp [DJ]) trivial (λk hk _=> ?_) (λ_=> ?_))
   .have hlk:=Yv (L:=s.L) (i0:=i0) (n:=n) (k:=k) aab;unfold qI;dsimp only;rw [hnr,fq,if_pos aab];rcases af2 k i0 with ZJ|ZJ|ZJ
    .rw [decide_eq_false (show¬i0<k by omega),if_pos abq,aI (by grind [fq]),sV hk];rw [Lf,ak,hah k hk,decide_eq_false (by grind),ak,if_neg abq,ak];rw [aI (by grind [fq]),sV hk,if_pos (by grind),wrap64 aab aab];refine .mk ⟨?_,trivial⟩;have:DJ s.L i0 n (k+1)=DJ s.L i0 n k++[s.L[k]]:=by unfold DJ;rw [if_pos aab,if_pos aab,take_succ hk]
     grind
    .subst ZJ;rw [decide_eq_false (show¬k<k by omega),if_pos abq,aI (by grind [fq]),sV hk];rw [Lf,ak,hah k hk,decide_eq_true (agG k),ak,if_pos rfl,if_pos (by grind),ak];rw [aI (by grind [fq]),sV hk,if_pos (by grind),wrap64 aab aab];refine .mk ⟨?_,trivial⟩;have:DJ s.L k n (k+1)=DJ s.L k n k++[n]++[s.L[k]]:=by unfold DJ;rw [if_neg aab,if_pos (agG k),take_succ hk,al0,ag7 (by grind),IN,akB aab,amP];simp
     grind
    .rw [decide_eq_true ZJ,if_neg abq,ak,if_neg abq,ak];rw [aI (by grind [fq]),sV hk,if_pos (by grind),wrap64 aab aab];refine .mk ⟨?_,trivial⟩;have:DJ s.L i0 n (k+1)=DJ s.L i0 n k++[s.L[k]]:=by unfold DJ;rw [if_neg aab,if_neg aab,take_succ hk,al0,IN,akB aab,show i0-k=0 by omega];simp
     grind
   .unfold qI;dsimp only;rw [fq,if_neg aab];exact .mk rfl
  rw [dR,ak];dsimp only;have ann:L6 s.L n=if i0<s.L.length then DJ s.L i0 n s.L.length else DJ s.L i0 n s.L.length++[n]:=by
   unfold L6 DJ;have hnp:n.Path=p:=by rw [hn]
   rw [hnp,<-e1,<-e2];by_cases h:i0<s.L.length
   .grind
   .grind
  have hlk:=Yv (L:=s.L) (i0:=i0) (n:=n) (k:=s.L.length) (agG _);rw [<-hn,ann];by_cases h:i0<s.L.length
  .rw [decide_eq_true h,if_neg abq,ak,if_pos h];rfl
  .rw [decide_eq_false h,if_pos abq,if_pos (by grind),ak,if_neg h];grind [c9]
def aeT {s:ax}(pF:eP s.L)(p value:List UInt8)(version:Int):HB (c9 s) p value version=some (c9 ⟨(uN s.L p value version).1⟩,(uN s.L p value version).2):=by
 have hl:=pF.len;unfold HB uN QL;rw [zZ aab,ak];dsimp only;rw [Kq];by_cases h:(bR s.L p).2=0;rotate_left
 .have hv:lr s.L p version=(bR s.L p).2:=by unfold lr;rw [if_neg (λh'=>h h'.1)]
  simp_all
 have ⟨g2,hv,hpa,g1⟩:=get_at h;have hfl:=pF.xx _ (OF g2);rw [<-hv] at hfl;rw [decide_eq_true h,if_neg abq];by_cases h1:version≠ -1/\version≠(ea s.L p).1.Version
 .have hv8:lr s.L p version=8:=by unfold lr;rw [if_pos ⟨h,h1⟩]
  simp_all
 .have hw:(if !decide (version=(-1)) then some (!decide (version=(ea s.L p).1.Version)) else some false)=some false:=by
   by_cases h2:version= -1
   .simp [h2]
   .grind
  have hv0:lr s.L p version=0:=by unfold lr;rw [if_neg (λh'=>h1 h'.2)];exact h
  rw [hw,ak,if_neg abq,if_pos hv0];by_cases h3:(1000:Int)<(value.length:Int)
  .simp [h3]
  .rw [if_neg h3,if_neg h3];by_cases h4:(1000000000:Int)<=(ea s.L p).1.Version
   .rw [if_pos aab,if_pos h4];rfl
   .have Qz:vu (s.L.map (·.Path)) p=(bR s.L p).1:=by
     unfold bR at h⊢;cases hp:bk p with
     |false=>grind
     |true=>grind
    have Zj:=fq s;have hg2:(bR s.L p).1.toNat<(c9 s).L.length:=by rw [Zj];exact g2
    rw [if_neg aab,if_neg h4,if_pos (by grind),Ix aab,ak,Qz,ako,AD g1 hg2];grind [wrap64,c9,aeQ,afC]
def aeU {s:ax}(pF:eP s.L)(p:List UInt8)(version:Int):wD (c9 s) p version=some (c9 ⟨(uy s.L p version).1⟩,(uy s.L p version).2):=by
 have hl:=pF.len;have hs:=pF.ord;unfold wD uy Yu;rw [zZ aab,ak];rw [Kq];by_cases hp:p=[47]
 .have h:(bR s.L p).2=0:=by
   unfold bR;have:bk [47]=true:=by obtain ⟨m,hm,hr⟩:=pF.root;rw [<-hr];exact hs.1 m hm
   rw [hp,this];simp [at_root pF]
  simp_all
 by_cases h:(bR s.L p).2=0;rotate_left
 .have hv:lr s.L p version=(bR s.L p).2:=by unfold lr;rw [if_neg (λh'=>h h'.1)]
  simp_all
 have ⟨g2,hv,hpa,g1⟩:=get_at h;rw [decide_eq_true h,if_neg abq,if_neg hp];by_cases h1:version≠ -1/\version≠(ea s.L p).1.Version
 .have hv8:lr s.L p version=8:=by unfold lr;rw [if_pos ⟨h,h1⟩]
  rw [decide_eq_false h1.1,if_pos abq,ak,decide_eq_false h1.2,if_pos abq,hv8,if_neg hp];rfl
 .have hw:(if !decide (version=(-1)) then some (!decide (version=(ea s.L p).1.Version)) else some false)=some false:=by
   by_cases h2:version= -1
   .simp [h2]
   .grind
  have hv0:lr s.L p version=0:=by unfold lr;rw [if_neg (λh'=>h1 h'.2)];exact h
  rw [hw,ak,if_neg abq,if_neg hp,if_pos hv0,acC hs aab,ak];by_cases hk:lq s.L p=[];rotate_left
  .simp_all
  have Qz:vu (s.L.map (·.Path)) p=(bR s.L p).1:=by
   unfold bR at h⊢;cases hp:bk p with
   |false=>grind
   |true=>grind
  have ⟨i,rG⟩: ∃i:Nat,(bR s.L p).1=(i:Int):=(by grind)
  have Zj:=fq s;rw [hk,if_neg abq,if_pos rfl,Ix aab,ak,Qz,rG,wrap64 aab aab,show (i:Int)+1=((i+1:Nat):Int) by omega];rw [if_pos (by grind),if_pos (by simp;omega),if_pos (by grind),if_pos (by simp;omega)];unfold c9;simp only [if_true,ako,afB,ad1,ab2,aft,afu];simp
def aaW (s:ax)(owner:Int)(hl:s.L.length<2^40):zw (c9 s) owner=some (c9 ⟨(cb s.L owner).1⟩,(cb s.L owner).2):=by
 have dR:Loop (AH (c9 s) owner) (([]:List aW),([]:List (List UInt8)),0)=some (((cb s.L owner).1).map toR,(cb s.L owner).2):=by
  refine aM.eq (aM.count (λk=>((cb (s.L.take k) owner).1.map toR,(cb (s.L.take k) owner).2,(k:Int))) s.L.length (λ_=>True) rfl trivial (λk hk _=> ?_) (λ_=> ?_))
  .have l1:(cb (s.L.take k) owner).1.length<=k:=by unfold cb;have:=afL (p9 owner) (s.L.take k);rw [IN] at this;dsimp only;omega
   have l2:(cb (s.L.take k) owner).2.length<=k:=by unfold cb;have:=afL (λn=>!p9 owner n) (s.L.take k);rw [IN] at this;dsimp only;rw [bD];omega
   have e1:=yv (p9 owner) hk;have e2:=yv (λn=>!p9 owner n) hk;have hkp:k<(c9 s).L.length:=by rw [fq];exact hk
   unfold AH;dsimp only;rw [fq,if_pos aab,aI hkp,aI hkp,aI hkp,sV hk];have hw:(if (0:Int)<owner then some (decide ((s.L[k]).dt=owner)) else some false)=some (!p9 owner s.L[k]):=by unfold p9;by_cases h:(0:Int)<owner<;>simp [h]
   rw [hw,ak,wrap64 aab aab];cases fw:p9 owner s.L[k] with
   |true=>rw [if_neg abq,if_pos (by grind),ak];refine .mk ⟨?_,trivial⟩;grind [cb]
   |false=>rw [if_pos abq,if_pos (by grind),ak];refine .mk ⟨?_,trivial⟩;grind [cb]
  .unfold AH;dsimp only;rw [fq,if_neg aab,ad1];exact .mk rfl
 unfold zw;rw [dR];rfl
def aaX {L:List ab}(pF:eP L)(p value:List UInt8)(owner:Int):eP (ic L p value owner).1:=by
 unfold ic;by_cases h:dM L p value owner=0;rotate_left
 .grind
 rw [if_pos h];have ⟨c1,c2,c3,c4,c5,c6,c7⟩:=aaV h;have ml:=ajv c2;have QJ: ∀m,m∈L6 L ⟨p,value,0,owner⟩↔m=⟨p,value,0,owner⟩\/m∈L:=λm=>Vq;have mD:p≠[47]:=(by grind [pF.root])
 refine ⟨by grind [L6,anl],anm pF.ord c1 ml,?_,?_,?_,?_⟩
 .grind [pF.root]
 .intro n hn;rcases (QJ n).1 hn with rfl|hn
  .grind
  .exact pF.xx n hn
 .intro n hn hr;rcases (QJ n).1 hn with rfl|hn
  .grind
  .exact pF.top n hn hr
 .intro n hn hr;rcases (QJ n).1 hn with rfl|hn
  .grind [Kq,get_at,ea,cC,OF]
  .have ⟨m,hm,h1,h2⟩:=pF.grown n hn hr;grind
def ano {L:List ab}(hs:pS L){i:Nat}(hi:i<L.length){y:ab}(hy:y.Path=(L[i]).Path)(n:ab):n∈L.set i y↔n=y\/(n∈L/\n.Path≠y.Path):=by
 constructor
 .intro h;obtain ⟨j,hj,rfl⟩:=BY.1 h;rw [List.getElem_set];by_cases hij:i=j
  .grind
  .grind [OF,Iv]
 grind [BY,afD,hy.symm]
def aeV {L:List ab}{i:Nat}(hi:i<L.length){y:ab}(hy:y.Path=(L[i]).Path):(L.set i y).map (·.Path)=L.map (·.Path):=by refine List.ext_getElem abu λk h1 h2=> ?_;grind
def aeW {L M:List ab}(h:M.map (·.Path)=L.map (·.Path))(hs:pS L):pS M:=by
 constructor
 .intro n hn;have:n.Path∈L.map (·.Path):=by rw [<-h];exact (by grind)
  have ⟨m,hm,e⟩:=anV.1 this;rw [<-e];exact hs.1 m hm
 .have h1:(L.map (·.Path)).Pairwise λa b=>rI (aC a) (aC b)=true:=List.pairwise_map.2 hs.2;grind
def acG {L:List ab}{p value:List UInt8}{version:Int}(h:QL L p value version=0):(bR L p).2=0/\value.length<=1000/\(ea L p).1.Version<1000000000:=by
 unfold QL at h;by_cases h0:lr L p version=0
 .by_cases h1:(1000:Int)<(value.length:Int)
  .grind
  .grind [ea,Iw]
 grind
def MH {L:List ab}(pF:eP L)(p value:List UInt8)(version:Int):eP (uN L p value version).1:=by
 unfold uN;by_cases h:QL L p value version=0;rotate_left
 .grind
 rw [if_pos h];have ⟨c1,c2,c3⟩:=acG h;have ⟨g1,g2,g3,_⟩:=get_at c1;have hx:(ea L p).1∈L:=by rw [g2];exact OF g1
 have hy:(aeQ (ea L p).1 value).Path=(L[(bR L p).1.toNat]).Path:=by rw [<-g2];rfl
 have QJ:=ano pF.ord g1 hy;have hold: ∀m∈L,∃m'∈L.set (bR L p).1.toNat (aeQ (ea L p).1 value),m'.Path=m.Path/\m'.dt=m.dt:=by
  intro m hm;by_cases he:m.Path=(aeQ (ea L p).1 value).Path
  .have:=ajt pF.ord hm hx he;subst this;exact ⟨_,(QJ _).2 (.inl rfl),rfl,rfl⟩
  .grind
 have hfl:=pF.xx _ hx;have ml: ∀n∈L.set (bR L p).1.toNat (aeQ (ea L p).1 value),∃m∈L,n.Path=m.Path/\n.dt=m.dt:=by
  intro n hn;rcases (QJ n).1 hn with rfl|⟨hn,_⟩
  .grind
  .grind
 refine ⟨by grind [afD,pF.len],aeW (aeV g1 hy) pF.ord,?_,?_,?_,?_⟩
 .grind [pF.root]
 .intro n hn;rcases (QJ n).1 hn with rfl|⟨hn,_⟩
  .refine ⟨c2,?_,?_,hfl.2.2.2⟩
   .show 0<=(ea L p).1.Version+1;omega
   .show (ea L p).1.Version+1<=1000000000;omega
  .exact pF.xx n hn
 .intro n hn hr;have ⟨m,hm,h1,h2⟩:=ml n hn;rw [h2];exact pF.top m hm (by grind)
 .intro n hn hr;have ⟨m,hm,h1,h2⟩:=ml n hn;have ⟨q,hq,h3,h4⟩:=pF.grown m hm (by grind);grind
def aeX {L:List ab}(hs:pS L){i:Nat}(hi:i<L.length)(n:ab):n∈L.take i++L.drop (i+1)↔n∈L/\n.Path≠(L[i]).Path:=by
 rw [akA];constructor
 .rintro (h|h)
  .obtain ⟨j,hj,rfl⟩:=BY.1 h;rw [IN] at hj;rw [alR];exact ⟨OF _,λe=>by have:=Iv hs aab hi e;omega⟩
  .obtain ⟨j,hj,rfl⟩:=BY.1 h;rw [ac4] at hj;rw [ahB];exact ⟨OF _,λe=>by have:=Iv hs aab hi e;omega⟩
 .rintro ⟨h,eR⟩;obtain ⟨j,hj,rfl⟩:=BY.1 h;rcases af2 j i with h1|h1|h1
  .grind [BY,IN]
  .grind
  .exact .inr (BY.2 ⟨j-(i+1),by grind,by grind⟩)
def anp {L:List ab}{p:List UInt8}{version:Int}(h:Yu L p version=0):p≠[47]/\(bR L p).2=0/\lq L p=[]:=by
 unfold Yu at h;by_cases hp:p=[47]
 .grind
 by_cases h0:lr L p version=0
 .grind [lq,Iw]
 grind
def anq {L:List ab}(pF:eP L)(p:List UInt8)(version:Int):eP (uy L p version).1:=by
 unfold uy;by_cases h:Yu L p version=0;rotate_left
 .grind
 rw [if_pos h];have ⟨c1,c2,c3⟩:=anp h;have ⟨g1,g2,g3,_⟩:=get_at c2;have QJ:=aeX pF.ord g1;have jb:(L.take (bR L p).1.toNat++L.drop ((bR L p).1.toNat+1)).Sublist L:=by
  conv=>rhs;rw [<-No (bR L p).1.toNat L]
  exact (by grind)
 refine ⟨ahQ jb.length_le pF.len,acD jb pF.ord,?_,λn hn=>pF.xx n (jb.subset hn),λn hn=>pF.top n (jb.subset hn),λn hn hr=> ?_⟩
 .have ⟨m,hm,hr⟩:=pF.root;grind
 .have ⟨m,hm,h1,h2⟩:=pF.grown n (jb.subset hn) hr;refine ⟨m,(QJ m).2 ⟨hm,λe=> ?_⟩,h1,h2⟩;have asb:DI p n=true:=by unfold DI;rw [decide_eq_true_eq];exact ⟨(aaT (pF.ord.1 n (jb.subset hn))).2 hr,by grind⟩
  have:n∈L.filter (DI p):=(by grind)
  grind [lq,akF]
def lP {α:Type}{p:α->Bool}{L:List α}{k:Nat}(hk:k<L.length):(L.take (k+1)).filter p=(L.take k).filter p++if p L[k] then [L[k]] else []:=by grind [afJ,By,Option.toList_some]
def Kr {α β:Type}{f:α->β}{L:List α}{k:Nat}(hk:k<L.length):(L.take (k+1)).map f=(L.take k).map f++[f L[k]]:=by grind [afJ,By]
def ajw {α β:Type}{f:α->β}{L:List α}{k:Nat}:((L.take k).map f).length<=L.length:=by grind
def ajx {α β:Type}(L:List α)(f:α->β){body:List β×Int->Option ((List β×Int)⊕List β)}(h: ∀k (hk:k<L.length),body ((L.take k).map f,(k:Int))=some (.inl ((L.take k).map f++[f L[k]],((k+1:Nat):Int))))(he:body (L.map f,(L.length:Int))=some (.inr (L.map f))):Loop body ([],0)=some (L.map f):=by
 refine aM.eq (aM.count (λk=>((L.take k).map f,(k:Int))) L.length (λ_=>True) abu trivial (λk hk _=> ?_) (λ_=> ?_))
 .refine .of (h k hk) ⟨by rw [Kr hk],trivial⟩
 .rw [ad1];exact .of he rfl
def Yw {α:Type}(L:List α)(p:α->Bool){body:List α×Int->Option ((List α×Int)⊕List α)}(h: ∀k (hk:k<L.length),body ((L.take k).filter p,(k:Int))=some (.inl ((L.take k).filter p++(if p L[k] then [L[k]] else []),((k+1:Nat):Int))))(he:body (L.filter p,(L.length:Int))=some (.inr (L.filter p))):Loop body ([],0)=some (L.filter p):=by
 refine aM.eq (aM.count (λk=>((L.take k).filter p,(k:Int))) L.length (λ_=>True) abu trivial (λk hk _=> ?_) (λ_=> ?_))
 .refine .of (h k hk) ⟨by rw [lP hk],trivial⟩
 .rw [ad1];exact .of he rfl
def uu (w:aq):aR:=⟨w.Path,w.Client,w.Kids⟩
def MI (c:az):bh:=⟨c.Kind,c.Path⟩
def plE (e:aY):cA:=⟨uu e.W,MI e.C⟩
theorem anr {a b:aq}:uu a=uu b↔a=b:=by
 constructor
 .cases a;simp_all [uu,aR.mk.injEq]
 grind
def aeZ (x y:aq):((decide (x.Path=y.Path))&&((decide (x.Client=y.Client))&&(decide (x.Kids=y.Kids))))=decide (x=y):=by cases x;cases y;grind
def Vt (x y:aR):((decide (x.Path=y.Path))&&((decide (x.Client=y.Client))&&(decide (x.Kids=y.Kids))))=decide (x=y):=by cases x;cases y;grind
def Vu (p:List UInt8):List UInt8×Int:=if bk p then (if p=[47] then ([],6) else (mP (aC p).dropLast,0)) else ([],13)
def mB (c:az)(w:aq):Bool:=(decide (1<=c.Kind)&&decide (c.Kind<=3)&&bk c.Path)&&(if w.Kids then decide ((Vu c.Path).2=0)&&(!decide (c.Kind=2))&&decide ((Vu c.Path).1=w.Path) else decide (c.Path=w.Path))
def Lj (k:Int)(b:Bool):(if k<1 then some true else if (3:Int)<k then some true else some (!b))=some (!(decide (1<=k)&&decide (k<=3)&&b)):=by grind
def aaY (c:az)(w:aq):oY c w=some (mB c w):=by
 unfold oY mB;rw [zW,ak,Lj,ak,SF,ak];cases hg:(decide (1<=c.Kind)&&decide (c.Kind<=3)&&bk c.Path) with
 |false=>rfl
 |true=>
  cases hk:w.Kids with
  |false=>rfl
  |true=>show bd (if (Vu c.Path).2=0 then if (!decide (c.Kind=2))=true then some (decide ((Vu c.Path).1=w.Path)) else some false else some false) _=_;by_cases h1:(Vu c.Path).2=0<;>by_cases h2:c.Kind=2<;>simp [h1,h2]
def Rq (c:az)(w:aq):tV (MI c) (uu w)=some (mB c w):=by
 unfold tV mB;have e1:kO (MI c).Path=some (bk c.Path):=ul c.Path;have e2:nE (MI c).Path=some (Vu c.Path):=BH c.Path;rw [e1,ak,e2,ak];show bd (if c.Kind<1 then some true else if (3:Int)<c.Kind then some true else some (!bk c.Path)) _=_;rw [Lj,ak];cases hg:(decide (1<=c.Kind)&&decide (c.Kind<=3)&&bk c.Path) with
 |false=>rfl
 |true=>
  show (if (!w.Kids)=true then some (decide (c.Path=w.Path)) else bd (if (!decide (c.Kind=2))=true then if (Vu c.Path).2=0 then some (decide ((Vu c.Path).1=w.Path)) else some false else some false) λw2=>some w2)=_;cases hk:w.Kids with
  |false=>rfl
  |true=>by_cases h1:(Vu c.Path).2=0<;>by_cases h2:c.Kind=2<;>simp [h1,h2]
def um (c:az)(L:List aq):List aY:=(L.filter (mB c)).map λw=>⟨w,c⟩
def rB (c:az)(L:List aq):List aq:=L.filter λw=>!mB c w
theorem ae0 (c:az)(L:List aq):(um c L).length+(rB c L).length=L.length:=by
 unfold um rB;induction L with
 |nil=>rfl
 |cons x r ih=>grind
def ajy (c:az): ∀(L:List aq) (out:List aY),out.length+L.length<=2^20->Ht (λu s=>od u c s) out L=some (rB c L,out++um c L):=by
 intro L;induction L with
 |nil=>grind [Ht,rB,um]
 |cons x r ih=>
  intro out hl;unfold Ht;have e1:od x c out=some (mB c x,if mB c x then out++[⟨x,c⟩] else out):=by
   unfold od;rw [aaY,ak];cases mB c x with
   |false=>rfl
   |true=>rw [if_pos rfl,if_pos (by grind),ak];rfl
  grind [ak,mB,rB,um]
def Iy (st:List aq×List aY)(c:az):List aq×List aY:=(rB c st.1,st.2++um c st.1)
def iD (L:List aq)(l:List az):List aq×List aY:=l.foldl Iy (L,[])
theorem ajz (l:List az): ∀st:List aq×List aY,(l.foldl Iy st).1.length+(l.foldl Iy st).2.length=st.1.length+st.2.length:=by
 induction l with
 |nil=>intro st;rfl
 |cons c l ih=>grind [ae0,Iy,IT]
def Ks (L:List aq)(l:List az):(iD L l).1.length+(iD L l).2.length=L.length:=by grind [ajz,iD]
theorem sW {α β:Type}{f:β->α->β}{b:β}{L:List α}{k:Nat}(hk:k<L.length):(L.take (k+1)).foldl f b=f ((L.take k).foldl f b) L[k]:=by grind [afJ,By]
def ans (t:bZ)(l:List az)(h1:t.L.length<=1000)(h2:l.length<=1000):wm t l=some (⟨(iD t.L l).1⟩,(iD t.L l).2):=by
 unfold wm;have e0:lD 32 t.L=some t.L:=by unfold lD;rw [if_pos aab]
 have dR:Loop (qB l) (t.L,([]:List aY),0)=some (iD t.L l):=by
  refine aM.eq (aM.count (λk=>((iD t.L (l.take k)).1,(iD t.L (l.take k)).2,(k:Int))) l.length (λ_=>True) rfl trivial (λk hk _=> ?_) (λ_=> ?_))
  .unfold qB;dsimp only;have hlen:=Ks t.L (l.take k);rw [if_pos aab,aI hk,ajy _ _ _ aab,ak,wrap64 aab aab];refine .mk ⟨?_,trivial⟩;have:iD t.L (l.take (k+1))=Iy (iD t.L (l.take k)) l[k]:=sW hk;rw [this];rfl
  .unfold qB;dsimp only;rw [if_neg aab];exact .mk (by grind)
 simp_all
def ajA (l:List az)(L:List aq)(out:List aY){i:Nat}(hi:i<l.length)(h1:out.length+L.length<=2^20): Loop (AJ (l.map MI) (L.map uu,out.map plE,(i:Int))) (out.map plE,([]:List aR),0)=some ((out++um l[i] L).map plE,(rB l[i] L).map uu):=by
 refine aM.eq (aM.count (λk=>((out++um l[i] (L.take k)).map plE,(rB l[i] (L.take k)).map uu,(k:Int))) L.length (λ_=>True) (by simp [um,rB]) trivial (λk hk _=> ?_) (λ_=> ?_))
 .unfold AJ;dsimp only;have hka:k<(L.map uu).length:=by rw [bD];exact hk
  have hia:i<(l.map MI).length:=by rw [bD];exact hi
  have e1:(L.map uu)[k]=uu L[k]:=afv _;have e2:(l.map MI)[i]=MI l[i]:=afv _;rw [if_pos (by grind),aI hia,aI hka,e1,e2,Rq,ak,wrap64 aab aab];have Aj:um l[i] (L.take (k+1))=um l[i] (L.take k)++(if mB l[i] L[k] then [⟨L[k],l[i]⟩] else []):=by unfold um;rw [lP hk,ab2];cases mB l[i] L[k]<;>rfl
  have Qm:rB l[i] (L.take (k+1))=rB l[i] (L.take k)++(if mB l[i] L[k] then [] else [L[k]]):=by unfold rB;rw [lP hk];cases mB l[i] L[k]<;>rfl
  rw [Aj,Qm];cases ht:mB l[i] L[k] with
  |true=>rw [if_pos rfl,aI hka,aI hia,e1,e2,if_pos (by grind [bD,IT,um,sh,AI]),ak];refine .mk ⟨?_,trivial⟩;simp [plE]
  |false=>rw [if_neg abq,aI hka,e1,if_pos (by grind [bD,IT,rB,sh,AI]),ak];refine .mk ⟨?_,trivial⟩;simp
 .unfold AJ;rw [if_neg (by grind)];exact .mk (by grind)
def aaZ (L:List aq)(l:List az)(h1:L.length<=1000)(h2:l.length<=1000):wG ⟨L.map uu⟩ (l.map MI)=some (⟨(iD L l).1.map uu⟩,(iD L l).2.map plE):=by
 unfold wG;rw [if_pos (by grind),ako];have dR:Loop (AK (l.map MI)) (L.map uu,([]:List cA),0)=some ((iD L l).1.map uu,(iD L l).2.map plE):=by
  refine aM.eq (aM.count (λk=>((iD L (l.take k)).1.map uu,(iD L (l.take k)).2.map plE,(k:Int))) l.length (λ_=>True) rfl trivial (λk hk _=> ?_) (λ_=> ?_))
  .unfold AK;dsimp only;have hlen:=Ks L (l.take k);rw [if_pos (by grind),ajA l _ _ hk aab,ak,wrap64 aab aab];refine .mk ⟨?_,trivial⟩;grind [iD,Iy,sW]
  .unfold AK;rw [if_neg (by grind)];exact .mk (by grind)
 simp_all
structure P8 (L:List aq):Prop where
 len:L.length<=200
 all: ∀w∈L,bk w.Path=true/\0<=w.Client
 nodup:L.Nodup
def ae1 (L:List aR)(w:aR)(hl:L.length<2^60):Ee L w=some (decide (w∈L)):=by
 unfold Ee;have hA:=Hu (body:=Ed L w) L.length (λk=>L[k]? ≠some w) true (λk hk _=> ?_) ?_
 .have ⟨r,er,hr⟩:=hA;rw [er,ak];rcases hr with ⟨rfl,h⟩|⟨rfl,k,hk,h⟩
  .grind [decide_eq_false,BY,By]
  grind
 .unfold Ed;rw [if_pos aab,aI hk,Vt,wrap64 aab aab,By hk];grind
 simp_all [Ed,if_neg]
def ant {L:List aq}{w:aq}:uu w∈L.map uu↔w∈L:=by rw [anV];exact ⟨(by grind [anr]),λh=>⟨w,h,rfl⟩⟩
def ql (L:List aq)(w:aq):List aq×Int:=if bk w.Path=false then (L,13) else if w.Client<0 then (L,1) else if w∈L then (L,0) else if 200<=L.length then (L,9) else (L++[w],0)
def Rr (L:List aq)(w:aq)(hl:L.length<2^60):dV L w=some (decide (w∈L)):=by
 unfold dV iK;have dR:aM (Loop (gl L w) 0) λr=>(r= .inl ()/\w∉L)\/ ∃k:Nat,r= .inr (k:Int)/\w∈L:=by
  refine aM.count (λk=>(k:Int)) L.length (λk=>w∉L.take k) rfl abu (λk hk hp=> ?_) (λhp=> ?_)
  .unfold gl;rw [if_pos aab,aI hk,aeZ,wrap64 aab aab];by_cases h:w=L[k]
   .rw [decide_eq_true h,if_pos rfl];exact .mk (by grind)
   .rw [decide_eq_false h,if_neg abq];refine .mk ⟨aab,?_⟩;grind [afJ,By,Option.toList_some,afG]
  .unfold gl;rw [if_neg aab];rw [ad1] at hp;exact .mk (.inl ⟨rfl,hp⟩)
 have ⟨r,er,hr⟩:=dR;grind [ak,decide_eq_false,decide_eq_true]
def ajB (L:List aq)(w:aq)(hl:L.length<=1000):vB ⟨L⟩ w=some (⟨(ql L w).1⟩,(ql L w).2):=by
 unfold vB ql;rw [zW,ak];cases hb:bk w.Path with
 |false=>rfl
 |true=>
  rw [if_neg (show¬(!true)=true by decide),if_neg (show¬true=false by decide)];by_cases hc:w.Client<0
  .rw [if_pos hc,if_pos hc]
  rw [if_neg hc,if_neg hc,Rr _ _ (show L.length<2^60 by omega),ak];by_cases hm:w∈L
  .grind
  rw [decide_eq_false hm,if_neg abq,if_neg hm];dsimp only;by_cases h2:200<=L.length
  .grind
  have e0:lD 32 L=some L:=by unfold lD;rw [if_pos aab]
  rw [if_neg aab,if_neg h2,e0,ak,if_pos (by grind)]
def ae2 (L:List aq)(w:aq)(hl:L.length<=1000):HC ⟨L.map uu⟩ (uu w)=some (⟨(ql L w).1.map uu⟩,(ql L w).2):=by
 unfold HC ql;have e1:kO (uu w).Path=some (bk w.Path):=ul w.Path;rw [e1,ak];cases hb:bk w.Path with
 |false=>rfl
 |true=>
  rw [if_neg (show¬(!true)=true by decide),if_neg (show¬true=false by decide)];by_cases hc:w.Client<0
  .have hc':(uu w).Client<0:=hc;rw [if_pos hc',if_pos hc]
  have hc': ¬(uu w).Client<0:=hc;have e2:Ee (L.map uu) (uu w)=some (decide (w∈L)):=by rw [ae1 _ _ (by grind)];congr 1;rw [decide_eq_decide,ant]
  rw [e2,ak];grind
theorem ajC (l:List az): ∀(L:List aq) (out:List aY),l.foldl Iy (L,out)=((iD L l).1,out++(iD L l).2):=by
 induction l with
 |nil=>grind [iD]
 |cons c l ih=>grind [iD,Iy,rB,um]
def P9 (L:List aq)(c:az)(l:List az):iD L (c::l)=((iD (rB c L) l).1,um c L++(iD (rB c L) l).2):=by unfold iD;grind [Iy,rB,um,ajC]
theorem Vv (l:List az): ∀L:List aq,(iD L l).1=L.filter (λw=>!l.any λc=>mB c w):=by
 induction l with
 |nil=>intro L;exact (akH.2 λa _=>rfl).symm
 |cons c l ih=>intro L;rw [P9];rw [ih];unfold rB;rw [List.filter_filter];grind
def asd (l:List az): ∀(L:List aq) (e:aY),e∈(iD L l).2->e.W∈L/\l.find? (λc=>mB c e.W)=some e.C:=by
 induction l with
 |nil=>grind [absurd,iD]
 |cons c l ih=>intro L e h;rw [P9] at h;all_goals grind [um,List.find?_cons_of_pos,rB,List.find?_cons_of_neg]
abbrev fK (x:aB):Int:=x.Id
abbrev jG (x:ah):Int:=x.Client
theorem acH (x y:Int):kH x y=some (T3 x y):=by unfold kH qy T3;simp;grind
theorem ae3 (b:aA)(id:Int):ez b id=bsearch b.L id du:=by unfold ez;rw [show cE b.L id du=bsearch b.L id du from rfl];cases bsearch b.L id du<;>rfl
theorem EF {b:aA}(hs:tA fK b.L)(hl:b.L.length<2^60)(id:Int):ez b id=some ((qw fK b.L id:Int),gh fK b.L id):=by grind [ae3,N8,du,acH,ak]
theorem ae4 (r:aj)(c:Int):fY r c=bsearch r.Seen c dg:=by unfold fY;rw [show cT r.Seen c dg=bsearch r.Seen c dg from rfl];cases bsearch r.Seen c dg<;>rfl
def SI {r:aj}(hs:tA jG r.Seen)(hl:r.Seen.length<2^60)(c:Int):fY r c=some ((qw jG r.Seen c:Int),gh jG r.Seen c):=by grind [ae4,N8,dg,acH,ak]
structure kn (b:aA):Prop where
 now:0<=b.eh/\b.eh<=1000000000
 len:b.L.length<=50
 inc:tA fK b.L
 all: ∀x∈b.L,1<=x.Id/\1<=x.Span/\x.Span<=1000/\b.eh<x.kG/\x.kG<=b.eh+x.Span
def ase {b:aA}(h:kn b)(id:Int):zl b id=some (gh fK b.L id):=by grind [zl,EF,h.inc,h.len,ak]
def rV (b:aA)(id span:Int):Int:=if id<1\/span<1\/1000<span then 1 else if gh fK b.L id then 7 else if 50<=b.L.length then 9 else 0
def BV (b:aA)(id span:Int):aA:=if rV b id span=0 then ⟨b.eh,Jj fK b.L ⟨id,span,b.eh+span⟩⟩ else b
def Yx {p q r:Prop}[Decidable p][Decidable q][Decidable r]:(if p then some true else if q then some true else some (decide r))=some (decide (p\/q\/r)):=by grind
def anu {b:aA}(h:kn b)(id span:Int):wh b id span=some (BV b id span,rV b id span):=by
 unfold wh;have hlen:=h.len;have anv:=h.now;rw [EF h.inc aab,ak,Yx,ak];by_cases h1:id<1\/span<1\/1000<span
 .have hE:rV b id span=1:=by unfold rV;rw [if_pos h1]
  unfold BV;grind
 rw [decide_eq_false h1,if_neg abq];dsimp only;cases h2:gh fK b.L id with
 |true=>
  have hE:rV b id span=7:=by unfold rV;rw [if_neg h1,h2,if_pos rfl]
  unfold BV;grind
 |false=>
  rw [if_neg abq];by_cases h3:50<=b.L.length
  .have hE:rV b id span=9:=by unfold rV;rw [if_neg h1,h2,if_neg abq,if_pos h3]
   unfold BV;grind
  .have hE:rV b id span=0:=by unfold rV;rw [if_neg h1,h2,if_neg abq,if_neg h3]
   unfold BV;have hi:=N9 (key:=fK) (L:=b.L) (a:=(⟨id,span,b.eh+span⟩:aB)) (by':=24) aab;rw [if_neg aab,D7 aab,ak,wrap64 aab aab,show qw fK b.L id=qw fK b.L (fK ⟨id,span,b.eh+span⟩) from rfl,hi,ak,hE,if_pos rfl]
def nY (b:aA)(id:Int):aA×Int:=if gh fK b.L id then (match b.L[qw fK b.L id]? with|some y=>⟨b.eh,b.L.set (qw fK b.L id) ⟨y.Id,y.Span,b.eh+y.Span⟩⟩|none=>b,0) else (b,14)
def ajD {b:aA}(h:kn b)(id:Int):tF b id=some (nY b id):=by
 unfold tF nY;have hlen:=h.len;have anv:=h.now;rw [EF h.inc aab,ak];dsimp only;cases h2:gh fK b.L id with
 |false=>rfl
 |true=>have ⟨hk,he⟩:=(h.inc.has id).1 h2;have hx:=h.all _ (OF hk);rw [if_neg abq,D7 aab,ak,aI hk,aI hk,wrap64 aab aab,if_pos rfl,By hk,afB]
def cW (b:aA)(id:Int):aA×Int:=if gh fK b.L id then (⟨b.eh,b.L.take (qw fK b.L id)++b.L.drop (qw fK b.L id+1)⟩,0) else (b,14)
def ajE {b:aA}(h:kn b)(id:Int):tG b id=some (cW b id):=by
 unfold tG cW;have hlen:=h.len;rw [EF h.inc aab,ak];dsimp only;cases h2:gh fK b.L id with
 |false=>rfl
 |true=>have ⟨hk,he⟩:=(h.inc.has id).1 h2;rw [if_neg abq,D7 aab,ak,wrap64 aab aab,if_pos rfl];unfold D6;rw [if_pos aab,ak];grind
def z1 (now:Int)(x:aB):Bool:=decide (x.kG<=now)
def rC (b:aA)(now:Int):Int:=if now<b.eh then 15 else if 1000000000<now then 5 else 0
def SJ (b:aA)(now:Int):aA:=⟨now,b.L.filter λx=>!z1 now x⟩
def rW (b:aA)(now:Int):List Int:=(b.L.filter (z1 now)).map (·.Id)
def anw {b:aA}(h:kn b)(now:Int):wj b now=some (if rC b now=0 then (SJ b now,rW b now,0) else (b,[],rC b now)):=by
 unfold wj rC;have hlen:=h.len;by_cases h1:now<b.eh
 .grind
 rw [if_neg h1,if_neg h1];by_cases h2:1000000000<now
 .grind
 rw [if_neg h2,if_neg h2,if_pos rfl];have dR:Loop (u9 b now) (([]:List Int),now,([]:List aB),0)=some (rW b now,now,b.L.filter λx=>!z1 now x):=by
  refine aM.eq (aM.count (λk=>(((b.L.take k).filter (z1 now)).map (·.Id),now,(b.L.take k).filter (λx=>!z1 now x),(k:Int))) b.L.length (λ_=>True) abu trivial (λk hk _=> ?_) (λ_=> ?_))
  .unfold u9;dsimp only;rw [if_pos aab,aI hk,lP hk,lP hk,wrap64 aab aab];by_cases hg:b.L[k].kG<=now
   .have hb:z1 now b.L[k]=true:=decide_eq_true hg;rw [if_pos hg,if_pos (by grind)];simp only [hb,if_true,akn,afF,if_false,ahs,ab2,afw,afz];exact .mk ⟨rfl,trivial⟩
   .have hb:z1 now b.L[k]=false:=decide_eq_false hg;rw [if_neg hg,if_pos (by grind)];simp only [hb,if_true,agO,afF,if_false,ahs];exact .mk ⟨rfl,trivial⟩
  .unfold u9;dsimp only;rw [if_neg aab,ad1];exact .mk rfl
 rw [dR,ak];rfl
def acI {α:Type}{key:α->Int}{L:List α}(hs:tA key L){a:α}(h:gh key L (key a)=false):tA key (Jj key L a):=by
 have ⟨h1,h2⟩:=hs.lb (key a);have eR: ∀x∈L,key x≠key a:=λx hx he=>by simp_all [akt,qx]
 unfold Jj tA;rw [ad5,aky];refine ⟨agx (List.take_sublist _ _) hs,?_,?_⟩
 .rw [List.singleton_append,alD];refine ⟨λx hx=> ?_,agx (List.drop_sublist _ _) hs⟩;obtain ⟨k,hk,rfl⟩:=BY.1 hx;grind
 .intro x hx y hy;obtain ⟨k,hk,rfl⟩:=BY.1 hx;rcases akA.1 hy with hy|hy
  .grind
  .obtain ⟨j,hj,rfl⟩:=BY.1 hy;grind
def MJ {α:Type}{key:α->Int}{L:List α}{a x:α}:x∈Jj key L a↔x∈L\/x=a:=by grind [Jj,afG,qw,No]
theorem acJ {α:Type}{key:α->Int}{L:List α}{a:α}:(Jj key L a).length=L.length+1:=by unfold Jj;grind
def anx {b:aA}(h:kn b)(id span:Int):kn (BV b id span):=by
 unfold BV;by_cases he:rV b id span=0
 .rw [if_pos he];unfold rV at he;split at he
  .cases he
  split at he
  .cases he
  rename_i h2;split at he
  .cases he
  have h2:gh fK b.L id=false:=by simpa using h2
  refine ⟨h.now,?_,acI h.inc h2,?_⟩
  .grind [acJ]
  .intro x hx;rcases MJ.1 hx with hx|rfl
   .exact h.all x hx
   grind
 grind
def Yy {α:Type}{key:α->Int}{L M:List α}(h:M.map key=L.map key)(hs:tA key L):tA key M:=by unfold tA at *;rw [<-List.pairwise_map] at hs⊢;grind
def Yz {α:Type}{key:α->Int}{L:List α}{i:Nat}(hi:i<L.length){y:α}(hy:key y=key L[i]):(L.set i y).map key=L.map key:=by grind [afC,aku]
def ajF {b:aA}(h:kn b)(id:Int):kn (nY b id).1/\ ∀i,gh fK (nY b id).1.L i=gh fK b.L i:=by
 unfold nY;cases h2:gh fK b.L id with
 |false=>grind
 |true=>
  have ⟨hk,he⟩:=(h.inc.has id).1 h2;rw [if_pos rfl,By hk];have ahh:(b.L.set (qw fK b.L id) ⟨b.L[qw fK b.L id].Id,b.L[qw fK b.L id].Span,b.eh+b.L[qw fK b.L id].Span⟩).map fK=b.L.map fK:=Yz hk rfl;refine ⟨⟨h.now,by grind [afD,h.len],Yy ahh h.inc,λx hx=> ?_⟩,λi=> ?_⟩
  .rcases aie hx with hx|rfl
   .exact h.all x hx
   .have:=h.all _ (OF hk);grind
  .have hh: ∀M:List aB,gh fK M i=(M.map fK).any λe=>decide (e=i):=(by grind [gh,List.any_map])
   grind
theorem asf {b:aA}(h:kn b){M:List aB}(hM:M.Sublist b.L):kn ⟨b.eh,M⟩:=⟨h.now,ahQ hM.length_le h.len,agx hM h.inc,λx hx=>h.all x (hM.subset hx)⟩
theorem Vw {α:Type}(L:List α)(i:Nat):(L.take i++L.drop (i+1)).Sublist L:=by rw [<-List.eraseIdx_eq_take_drop_succ];grind
def YA {b:aA}(h:kn b)(id:Int):kn (cW b id).1:=by grind [cW,asf,Vw]
def Iz {b:aA}(h:kn b){now:Int}(hz:rC b now=0):kn (SJ b now):=by
 unfold rC at hz;split at hz
 .cases hz
 split at hz
 .cases hz
 have hn:=h.now;refine ⟨⟨by show 0<=now;omega,by show now<=_;omega⟩,ahQ (afL _ _) h.len,agx akG h.inc,λx hx=> ?_⟩;have ⟨h3,h4⟩:=ak3.1 hx;have:=h.all x h3;have h5: ¬x.kG<=now:=by simpa [z1] using h4
 show 1<=x.Id/\1<=x.Span/\x.Span<=1000/\now<x.kG/\x.kG<=now+x.Span;omega
def aK {α β:Type}{x y:Option α}{K:α->Option β}{z:Option β}(h:x=y)(h2:bd y K=z):bd x K=z:=h▸h2
def sX (k:Int)(w:af):af:=if w.x.E=0 then {w with l:=w.l++[⟨k,w.o.Path⟩]} else w
def GQ (w:af)(k:Int)(hl:w.l.length<=2^20):dB w k=some ((),sX k w):=by
 unfold dB sX;by_cases h:w.x.E=0
 .rw [if_pos h,if_pos (by grind),ak,if_pos h]
 simp_all
def oK (w:af)(id:Int):af:={w with r:={w.r with Shelf:=⟨(cb w.r.Shelf.L id).1⟩},l:=w.l++(cb w.r.Shelf.L id).2.map λp=>⟨3,p⟩}
def EG (L:List ab)(id:Int):(cb L id).1.length+(cb L id).2.length=L.length:=by grind [cb,bD,Yt]
theorem ajG (w:af)(id:Int):(oK w id).l.length+(oK w id).r.Shelf.L.length=w.l.length+w.r.Shelf.L.length:=by unfold oK;have:=EG w.r.Shelf.L id;grind
def YB (w:af)(id:Int)(hl:w.l.length+w.r.Shelf.L.length<=2^20):jJ w id=some ((),oK w id):=by
 unfold jJ;have hlen:=EG w.r.Shelf.L id;rw [drop_eq w.r.Shelf id aab,ak];have dR:Loop (jW (((⟨(cb w.r.Shelf.L id).1⟩:ax),(cb w.r.Shelf.L id).2))) (0,(cb w.r.Shelf.L id).1,w.r.aE.eh,w.r.aE.L,w.r.aD.L,w.r.Seen,w.o.Client,w.o.Seq,w.o.Kind,w.o.Path,w.o.Value,w.o.Version,w.o.Session,w.o.Span,w.x.Client,w.x.Seq,w.x.E,w.x.Value,w.x.Version,w.x.Names,w.l)= some ((cb w.r.Shelf.L id).1,w.r.aE.eh,w.r.aE.L,w.r.aD.L,w.r.Seen,w.o.Client,w.o.Seq,w.o.Kind,w.o.Path,w.o.Value,w.o.Version,w.o.Session,w.o.Span,w.x.Client,w.x.Seq,w.x.E,w.x.Value,w.x.Version,w.x.Names,w.l++(cb w.r.Shelf.L id).2.map λp=>(⟨3,p⟩:az)):=by
  refine aM.eq (aM.count (λk=>((k:Int),(cb w.r.Shelf.L id).1,w.r.aE.eh,w.r.aE.L,w.r.aD.L,w.r.Seen,w.o.Client,w.o.Seq,w.o.Kind,w.o.Path,w.o.Value,w.o.Version,w.o.Session,w.o.Span,w.x.Client,w.x.Seq,w.x.E,w.x.Value,w.x.Version,w.x.Names,w.l++((cb w.r.Shelf.L id).2.take k).map λp=>(⟨3,p⟩:az))) (cb w.r.Shelf.L id).2.length (λ_=>True) abu trivial (λk hk _=> ?_) (λ_=> ?_))
  .unfold jW;dsimp only;rw [if_pos aab,aI hk,if_pos (by grind),wrap64 aab aab,Kr hk];refine .mk ⟨?_,trivial⟩;simp
  .unfold jW;dsimp only;rw [if_neg aab,ad1];exact .mk rfl
 exact aK dR rfl
def eU (w:af)(ids:List Int):af:=ids.foldl oK w
def Kt (ids:List Int): ∀w,(eU w ids).l.length+(eU w ids).r.Shelf.L.length=w.l.length+w.r.Shelf.L.length:=by
 unfold eU;induction ids with
 |nil=>intro w;rfl
 |cons i ids ih=>grind [ajG]
def anz (w:af):abw:=(w.r.Shelf.L,w.r.aE.eh,w.r.aE.L,w.r.aD.L,w.r.Seen,w.o.Client,w.o.Seq,w.o.Kind,w.o.Path,w.o.Value,w.o.Version,w.o.Session,w.o.Span,w.x.Client,w.x.Seq,w.x.E,w.x.Value,w.x.Version,w.x.Names,w.l)
def ajH (w:af)(p:aeb)(hl:w.l.length+w.r.Shelf.L.length<=2^20)(h2:p.2.1.length<=2^20):Loop (jX p) (0,anz w)=some (anz (eU w p.2.1)):=by
 refine aM.eq (aM.count (λk=>((k:Int),anz (eU w (p.2.1.take k)))) p.2.1.length (λ_=>True) (by simp [eU]) trivial (λk hk _=> ?_) (λ_=> ?_))
 .have hd:=YB (eU w (p.2.1.take k)) p.2.1[k] (by rw [Kt];exact hl);have hs:eU w (p.2.1.take (k+1))=oK (eU w (p.2.1.take k)) p.2.1[k]:=sW hk;rw [hs];unfold jX;rw [if_pos aab,aI hk];rw [wrap64 aab aab];refine .of (aK hd rfl) ⟨?_,trivial⟩;rfl
 .unfold jX;rw [if_neg aab,ad1];exact .mk rfl
def lj (w:af)(p:List ab×Int):af:={w with r:={w.r with Shelf:=⟨p.1⟩},x:={w.x with E:=p.2}}
def uP (w:af)(p:aA×Int):af:={w with r:={w.r with aE:=p.1},x:={w.x with E:=p.2}}
def awJ (w:af)(e:Int):af:={w with x:={w.x with E:=e}}
def yw (w:af):af:=if w.o.Session≠0/\gh fK w.r.aE.L w.o.Session=false then awJ w 14 else sX 1 (lj w (ic w.r.Shelf.L w.o.Path w.o.Value w.o.Session))
def ash (w:af):af:={w with x:={w.x with E:=(ea w.r.Shelf.L w.o.Path).2,Value:=(ea w.r.Shelf.L w.o.Path).1.Value,Version:=(ea w.r.Shelf.L w.o.Path).1.Version}}
def Qa (w:af):af:=if w.x.E=0 then {w with x:={w.x with Version:=(ea w.r.Shelf.L w.o.Path).1.Version}} else w
def Vx (w:af):af:=Qa (sX 2 (lj w (uN w.r.Shelf.L w.o.Path w.o.Value w.o.Version)))
def EH (w:af):af:=sX 3 (lj w (uy w.r.Shelf.L w.o.Path w.o.Version))
def ajI (w:af):af:={w with x:={w.x with E:=(mQ w.r.Shelf.L w.o.Path).2,Names:=(mQ w.r.Shelf.L w.o.Path).1}}
def acK (w:af):af:=uP w (BV w.r.aE w.o.Session w.o.Span,rV w.r.aE w.o.Session w.o.Span)
def Vy (w:af):af:=uP w (nY w.r.aE w.o.Session)
def BJ (w:af):af:=if (cW w.r.aE w.o.Session).2=0 then oK (uP w (cW w.r.aE w.o.Session)) w.o.Session else uP w (cW w.r.aE w.o.Session)
def uO (w:af):af:=⟨⟨w.r.Shelf,SJ w.r.aE w.o.Span,w.r.aD,w.r.Seen⟩,w.o,⟨w.x.Client,w.x.Seq,0,w.x.Value,w.o.Span,w.x.Names⟩,w.l⟩
def IA (w:af):af:=if rC w.r.aE w.o.Span=0 then eU (uO w) (rW w.r.aE w.o.Span) else awJ w (rC w.r.aE w.o.Span)
def ig (o:aa):aq:=⟨o.Path,o.Client,decide (o.Kind=11)⟩
def Vz (w:af):af:={w with r:={w.r with aD:=⟨(ql w.r.aD.L (ig w.o)).1⟩},x:={w.x with E:=(ql w.r.aD.L (ig w.o)).2}}
structure dN (r:aj):Prop where
 shelf:eP r.Shelf.L
 book:kn r.aE
 table:P8 r.aD.L
def aa0 {w:af}(h:dN w.r)(hl:w.l.length<=2^20):jU w=some ((),yw w):=by
 have hlen:=h.shelf.len;unfold jU yw;have aCF:(bd (oa w.r.Shelf w.o.Path w.o.Value w.o.Session) λaO=>bd (dB (⟨(⟨aO.1,w.r.aE,w.r.aD,w.r.Seen⟩:aj),w.o,(⟨w.x.Client,w.x.Seq,aO.2,w.x.Value,w.x.Version,w.x.Names⟩:ah),w.l⟩:af) 1) λbK=>some ((),bK.2))=some ((),sX 1 (lj w (ic w.r.Shelf.L w.o.Path w.o.Value w.o.Session))):=by rw [aeP h.shelf.ord aab,ak];exact aK (GQ (lj w (ic w.r.Shelf.L w.o.Path w.o.Value w.o.Session)) 1 hl) rfl
 by_cases hs:w.o.Session=0
 .simp_all
 .rw [decide_eq_false hs,if_pos (by grind),ase h.book,ak,ak];cases hh:gh fK w.r.aE.L w.o.Session with
  |false=>rw [if_pos (by grind),if_pos ⟨hs,rfl⟩];rfl
  |true=>grind
def anA {w:af}(h:dN w.r):nB w=some ((),ash w):=by grind [h.shelf.len,nB,ash,get_eq,h.shelf.ord,ak]
def anB {w:af}(h:dN w.r)(hl:w.l.length<=2^20):nC w=some ((),Vx w):=by
 unfold nC Vx;rw [asc h.shelf,ak];refine aK (GQ (lj w (uN w.r.Shelf.L w.o.Path w.o.Value w.o.Version)) 2 hl) ?_;rw [ak];have pF:eP (sX 2 (lj w (uN w.r.Shelf.L w.o.Path w.o.Value w.o.Version))).r.Shelf.L:=by
  have:(sX 2 (lj w (uN w.r.Shelf.L w.o.Path w.o.Value w.o.Version))).r.Shelf.L=(uN w.r.Shelf.L w.o.Path w.o.Value w.o.Version).1:=by unfold sX;split<;>rfl
  rw [this];exact MH h.shelf _ _ _
 generalize sX 2 (lj w (uN w.r.Shelf.L w.o.Path w.o.Value w.o.Version))=v at pF;have rQ:=pF.len;unfold Qa;by_cases he:v.x.E=0
 .rw [if_pos he,get_eq pF.ord aab,ak,ak,if_pos he]
 simp_all
def aa1 {w:af}(h:dN w.r)(hl:w.l.length<=2^20):jV w=some ((),EH w):=by unfold jV EH;rw [del_eq h.shelf,ak];exact aK (GQ (lj w (uy w.r.Shelf.L w.o.Path w.o.Version)) 3 hl) rfl
def ajJ {w:af}(h:dN w.r):lT w=some ((),ajI w):=by grind [h.shelf.len,lT,ajI,anj,h.shelf.ord,ak]
def ajK {w:af}(h:dN w.r):lU w=some ((),acK w):=by unfold lU acK;rw [anu h.book,ak];rfl
def ae5 {w:af}(h:dN w.r):kJ w=some ((),Vy w):=by unfold kJ Vy;rw [ajD h.book,ak];rfl
def ae6 {w:af}(h:dN w.r)(hl:w.l.length+w.r.Shelf.L.length<=2^20):kK w=some ((),BJ w):=by
 unfold kK BJ;rw [ajE h.book,ak];by_cases he:(cW w.r.aE w.o.Session).2=0
 .rw [if_pos he,if_pos he];have hd:=YB (uP w (cW w.r.aE w.o.Session)) w.o.Session hl;exact aK (y:=some (anz (oK (uP w (cW w.r.aE w.o.Session)) w.o.Session))) (aK hd rfl) rfl
 .rw [if_neg he,if_neg he];rfl
def ajL {w:af}(h:dN w.r)(hl:w.l.length+w.r.Shelf.L.length<=2^20):lV w=some ((),IA w):=by
 have hlen:=h.book.len;unfold lV IA;rw [anw h.book,ak];by_cases he:rC w.r.aE w.o.Span=0
 .rw [if_pos he,if_pos he];have hg:(rW w.r.aE w.o.Span).length<=w.r.aE.L.length:=by unfold rW;rw [bD];exact afL _ _
  have ht:=ajH (uO w) (SJ w.r.aE w.o.Span,rW w.r.aE w.o.Span,0) hl (by grind);exact aK ht rfl
 .rw [if_neg he,if_neg he];rw [decide_eq_false he,if_pos (by grind)];rfl
def SK {w:af}(h:dN w.r):kL w=some ((),Vz w):=by have hlen:=h.table.len;unfold kL Vz;rw [show vB w.r.aD (⟨w.o.Path,w.o.Client,decide (w.o.Kind=11)⟩:aq)=some (⟨(ql w.r.aD.L (ig w.o)).1⟩,(ql w.r.aD.L (ig w.o)).2) from ajB w.r.aD.L (ig w.o) aab,ak]
def BW (w:af):af:=if w.o.Kind=0 then w else if w.o.Kind=1 then yw w else if w.o.Kind=2 then ash w else if w.o.Kind=3 then Vx w else if w.o.Kind=4 then EH w else if w.o.Kind=5 then ajI w
 else if w.o.Kind=6 then acK w else if w.o.Kind=7 then Vy w else if w.o.Kind=8 then BJ w else if w.o.Kind=9 then IA w else Vz w
def anC {w:af}(h:dN w.r)(hl:w.l.length+w.r.Shelf.L.length<=2^20)(hk:0<=w.o.Kind/\w.o.Kind<=11) {β:Type}(K:Unit×af->Option β): (bd wk λaO=>ix aO w.o.Kind λy=>bd (tc y w) K)=K ((),BW w):=by
 unfold wk;rw [ak];have ⟨n,hn⟩: ∃n:Nat,w.o.Kind=(n:Int):=⟨w.o.Kind.toNat,aab⟩
 have aA0:n<12:=aab
 have I7:w.l.length<=2^20:=aab
 unfold BW;rw [hn];match n,aA0 with
 |0,_=>rfl
 |1,_=>exact aK (aa0 h I7) rfl
 |2,_=>exact aK (anA h) rfl
 |3,_=>exact aK (anB h I7) rfl
 |4,_=>exact aK (aa1 h I7) rfl
 |5,_=>exact aK (ajJ h) rfl
 |6,_=>exact aK (ajK h) rfl
 |7,_=>exact aK (ae5 h) rfl
 |8,_=>exact aK (ae6 h hl) rfl
 |9,_=>exact aK (ajL h hl) rfl
 |10,_=>exact aK (SK h) rfl
 |11,_=>exact aK (SK h) rfl
structure dw (r:aj):Prop extends dN r where
 inc:tA jG r.Seen
 few:r.Seen.length<=50
 seen: ∀x∈r.Seen,0<=x.Client/\x.Client<=1000/\1<=x.Seq
def ajM (o:aa): ∃u,bw o=some u:=by unfold bw;repeat' (first|exact ⟨_,rfl⟩|(split<;>try simp only [ak]))
def ajN (o:aa):aM (dK o) λb=>b=true->(0<=o.Client/\o.Client<=1000)/\(1<=o.Seq/\o.Seq<=1000000000)/\(0<=o.Kind/\o.Kind<=11)/\o.Path.length<=100/\o.Value.length<=1000:=by
 unfold dK;have ⟨u,hu⟩:=ajM o;rw [hu];by_cases h1:(0:Int)<=o.Client;rotate_left
 .rw [if_neg h1,ak,if_neg abq,ak];exact .mk (λh=>by cases h)
 rw [if_pos h1];by_cases h2:o.Client<=1000;rotate_left
 .rw [if_neg h2,ak,if_neg abq,ak];exact .mk (λh=>by cases h)
 rw [if_pos h2];by_cases h3:(1:Int)<=o.Seq;rotate_left
 .rw [if_neg h3,ak,if_neg abq,ak];exact .mk (λh=>by cases h)
 rw [if_pos h3,ak];by_cases h4:o.Seq<=1000000000;rotate_left
 .rw [decide_eq_false h4,if_neg abq,ak];exact .mk (λh=>by cases h)
 rw [decide_eq_true h4,if_pos rfl];by_cases h5:(0:Int)<=o.Kind;rotate_left
 .rw [if_neg h5,ak];exact .mk (λh=>by cases h)
 rw [if_pos h5];by_cases h6:o.Kind<=11;rotate_left
 .rw [if_neg h6,ak];exact .mk (λh=>by cases h)
 rw [if_pos h6];by_cases h7:(o.Path.length:Int)<=100;rotate_left
 .rw [if_neg h7,ak];exact .mk (λh=>by cases h)
 rw [if_pos h7];by_cases h8:(o.Value.length:Int)<=1000;rotate_left
 .rw [if_neg h8,ak];exact .mk (λh=>by cases h)
 rw [if_pos h8,ak,ak];exact .mk (by grind)
def GR (o:aa):Bool:=(dK o).getD false
def IC (o:aa):dK o=some (GR o):=by have ⟨b,hb,_⟩:=ajN o;grind [GR]
def MK {o:aa}(h:GR o=true):(0<=o.Client/\o.Client<=1000)/\(1<=o.Seq/\o.Seq<=1000000000)/\(0<=o.Kind/\o.Kind<=11)/\o.Path.length<=100/\o.Value.length<=1000:=by have ⟨b,hb,hp⟩:=ajN o;grind [GR]
def noR:ah:=⟨0,0,0,[],0,[]⟩
def eM (L:List ah)(c:Int):ah×Bool:=if gh jG L c then ((L[qw jG L c]?).getD noR,true) else (noR,false)
def acL {r:aj}(h:dw r)(c:Int):sr r c=some (eM r.Seen c):=by
 have hf:=h.few;unfold sr eM;rw [SI h.inc aab,ak];dsimp only;cases hh:gh jG r.Seen c with
 |false=>rfl
 |true=>have ⟨hk,he⟩:=(h.inc.has c).1 hh;rw [if_neg abq,aI hk,if_pos rfl,By hk];rfl
def cO (o:aa)(e:Int):ah:=⟨o.Client,o.Seq,e,[],0,[]⟩
def ek (L:List ah)(o:aa):ah×Bool:=if GR o=false then (cO o 1,true) else
 if (eM L o.Client).2 then (if (eM L o.Client).1.Seq=o.Seq then ((eM L o.Client).1,true) else if o.Seq<(eM L o.Client).1.Seq then (cO o 15,true) else (cO o 0,false))
 else if 50<=L.length then (cO o 9,true) else (cO o 0,false)
def ajO {r:aj}(h:dw r)(o:aa):kI r o=some (ek r.Seen o):=by
 unfold kI ek;rw [acL h,ak,IC,ak];cases hm:GR o with
 |false=>rfl
 |true=>
  rw [if_neg (show¬(!true)=true by decide),if_neg (show¬true=false by decide)];cases hl:(eM r.Seen o.Client).2 with
  |true=>
   rw [if_pos rfl,if_pos rfl,ak];by_cases h1:(eM r.Seen o.Client).1.Seq=o.Seq
   .rw [decide_eq_true h1,if_pos h1];rfl
   .rw [decide_eq_false h1,if_neg h1,if_neg abq,if_pos rfl,ak];by_cases h2:o.Seq<(eM r.Seen o.Client).1.Seq
    .rw [decide_eq_true h2,if_pos h2];rfl
    .rw [decide_eq_false h2,if_neg h2];rfl
  |false=>
   rw [if_neg abq,ak,if_neg abq,if_neg abq,ak,if_neg abq];by_cases h3:50<=r.Seen.length
   .rw [decide_eq_true (by grind),if_pos h3];rfl
   .rw [decide_eq_false (by grind),if_neg h3];rfl
def BX (L:List ah)(c:Int)(x:ah):List ah:=if gh jG L c then L.set (qw jG L c) x else Jj jG L x
def fC (r:aj)(o:aa):af:=BW ⟨r,o,(ek r.Seen o).1,[]⟩
def cK (r:aj)(o:aa):aj×ah×List aY:=if (ek r.Seen o).2 then (r,(ek r.Seen o).1,[])
 else (⟨(fC r o).r.Shelf,(fC r o).r.aE,⟨(iD (fC r o).r.aD.L (fC r o).l).1⟩,BX r.Seen o.Client (fC r o).x⟩,(fC r o).x,(iD (fC r o).r.aD.L (fC r o).l).2)
structure DK (w v:af):Prop extends dN v.r where
 o:v.o=w.o
 eT:v.x.Client=w.x.Client
 seq:v.x.Seq=w.x.Seq
 seen:v.r.Seen=w.r.Seen
 len:v.l.length<=w.l.length+250
theorem ae7 {L M:List aq}(h:P8 L)(hM:M.Sublist L):P8 M:=⟨ahQ hM.length_le h.len,λx hx=>h.all x (hM.subset hx),agx hM h.nodup⟩
def Qb {w v:af}{k:Int}(h:dN v.r)(h1:v.o=w.o)(h2:v.x.Client=w.x.Client)(h3:v.x.Seq=w.x.Seq)(h4:v.r.Seen=w.r.Seen)(h5:v.l.length<=w.l.length+249):DK w (sX k v):=by
 unfold sX;split
 .exact ⟨h,h1,h2,h3,h4,by grind⟩
 .exact ⟨h,h1,h2,h3,h4,aab⟩
theorem uo {r:aj}(h:dN r){L:List ab}(hL:eP L):dN {r with Shelf:=⟨L⟩}:=⟨hL,h.book,h.table⟩
def lQ {r:aj}(h:dN r){b:aA}(hb:kn b):dN {r with aE:=b}:=⟨h.shelf,hb,h.table⟩
def ae8 {w v:af}(h:dN v.r)(h1:v.o=w.o)(h2:v.x.Client=w.x.Client)(h3:v.x.Seq=w.x.Seq)(h4:v.r.Seen=w.r.Seen)(h5:v.l.length<=w.l.length)(id:Int):DK w (oK v id):=by have hl:=EG v.r.Shelf.L id;have hs:=h.shelf.len;refine ⟨uo h (acE h.shelf id),h1,h2,h3,h4,?_⟩;grind [oK,IT,bD]
def uq (ids:List Int): ∀{v:af},dN v.r->dN (eU v ids).r/\(eU v ids).o=v.o/\(eU v ids).x=v.x/\(eU v ids).r.Seen=v.r.Seen/\(eU v ids).r.aE=v.r.aE/\(eU v ids).r.aD=v.r.aD:=by
 unfold eU;induction ids with
 |nil=>grind
 |cons i ids ih=>intro v h;grind [oK,uo,acE,h.shelf]
def ae9 {L:List aq}(h:P8 L)(w:aq):P8 (ql L w).1:=by
 unfold ql;split
 .exact h
 split
 .exact h
 split
 .exact h
 split
 .exact h
 refine ⟨by grind,λx hx=> ?_,?_⟩
 .rcases akA.1 hx with hx|hx
  .exact h.all x hx
  grind
 grind [List.nodup_append,h.nodup,afG]
theorem YC {w:af}(h:dN w.r):DK w (BW w):=by
 have hs:=h.shelf.len;unfold BW;split
 .exact ⟨h,rfl,rfl,rfl,rfl,aab⟩
 split
 .unfold yw;split
  .exact ⟨h,rfl,rfl,rfl,rfl,by show w.l.length<=_;omega⟩
  .exact Qb (uo h (aaX h.shelf _ _ _)) rfl rfl rfl rfl (by show w.l.length<=_;omega)
 split
 .exact ⟨h,rfl,rfl,rfl,rfl,by show w.l.length<=_;omega⟩
 split
 .unfold Vx Qa;have hc:DK w (sX 2 (lj w (uN w.r.Shelf.L w.o.Path w.o.Value w.o.Version))):=Qb (uo h (MH h.shelf _ _ _)) rfl rfl rfl rfl (by show w.l.length<=_;omega);split
  .exact ⟨hc.todN,hc.o,hc.eT,hc.seq,hc.seen,hc.len⟩
  .exact hc
 split
 .exact Qb (uo h (anq h.shelf _ _)) rfl rfl rfl rfl (by show w.l.length<=_;omega)
 split
 .exact ⟨h,rfl,rfl,rfl,rfl,by show w.l.length<=_;omega⟩
 split
 .exact ⟨lQ h (anx h.book _ _),rfl,rfl,rfl,rfl,by show w.l.length<=_;omega⟩
 split
 .exact ⟨lQ h (ajF h.book _).1,rfl,rfl,rfl,rfl,by show w.l.length<=_;omega⟩
 split
 .unfold BJ;split
  .exact ae8 (w:=w) (v:=uP w (cW w.r.aE w.o.Session)) (lQ h (YA h.book w.o.Session)) rfl rfl rfl rfl (agG _) _
  .exact ⟨lQ h (YA h.book _),rfl,rfl,rfl,rfl,by show w.l.length<=_;omega⟩
 split
 .unfold IA;split
  .rename_i he;have hd:=Kt (rW w.r.aE w.o.Span) (uO w);have ⟨h1,h2,h3,h4,h5,h6⟩:=uq (rW w.r.aE w.o.Span) (v:=uO w) (lQ h (Iz h.book he));have e1:(uO w).l.length=w.l.length:=rfl;have e2:(uO w).r.Shelf.L.length=w.r.Shelf.L.length:=rfl;exact ⟨h1,h2,by rw [h3];rfl,by rw [h3];rfl,h4,aab⟩
  .exact ⟨h,rfl,rfl,rfl,rfl,by show w.l.length<=_;omega⟩
 .exact ⟨⟨h.shelf,h.book,ae9 h.table _⟩,rfl,rfl,rfl,rfl,by show w.l.length<=_;omega⟩
def z6 {L:List ah}{o:aa}(h:(ek L o).2=false):GR o=true/\(ek L o).1=cO o 0/\((eM L o.Client).2=true->(eM L o.Client).1.Seq<o.Seq)/\((eM L o.Client).2=false->L.length<50):=by unfold ek at h⊢;grind
theorem ajP (L:List ah)(c:Int):(eM L c).2=gh jG L c:=by unfold eM;grind
def afa {r:aj}(h:dw r)(o:aa):tH r o=some (cK r o):=by
 have hf:=h.few;unfold tH cK fC;rw [ajO h,ak];cases hk:(ek r.Seen o).2 with
 |true=>rfl
 |false=>
  rw [if_neg abq,if_neg abq];have ⟨hm,B1,I7,xO⟩:=z6 hk;have hp:=MK hm;have hs:=h.shelf.len;have hd:=YC (w:=⟨r,o,(ek r.Seen o).1,[]⟩) h.todN;refine (anC (w:=⟨r,o,(ek r.Seen o).1,[]⟩) h.todN (by grind) hp.2.2.1 _).trans ?_;have hxc:(BW ⟨r,o,(ek r.Seen o).1,[]⟩).x.Client=o.Client:=by rw [hd.eT,B1];rfl
  have ht:=hd.table.len;have hlen:=hd.len;generalize BW ⟨r,o,(ek r.Seen o).1,[]⟩=w at hd ht hlen hxc;dsimp only [AI] at hlen;rw [ans w.r.aD w.l aab aab,ak,D7 aab,ak,SI h.inc aab,ak];dsimp only;unfold BX;cases hh:gh jG r.Seen o.Client with
  |true=>have ⟨Lw,he⟩:=(h.inc.has o.Client).1 hh;rw [if_pos rfl,if_pos rfl,aI Lw,ak,afB]
  |false=>
   have hi:=N9 (key:=jG) (L:=r.Seen) (a:=w.x) (by':=72) aab;have hi:uW 72 r.Seen (qw jG r.Seen o.Client:Int) [w.x]=some (Jj jG r.Seen w.x):=by rw [<-hxc];exact hi
   rw [if_neg abq,if_neg abq,hi,ak,ak]
def anD {r:aj}(h:dw r){c:Int}{x:ah}(hx:x.Client=c)(hc:0<=c/\c<=1000/\1<=x.Seq)(hl:gh jG r.Seen c=false->r.Seen.length<50): tA jG (BX r.Seen c x)/\(BX r.Seen c x).length<=50/\ ∀y∈BX r.Seen c x,0<=y.Client/\y.Client<=1000/\1<=y.Seq:=by
 unfold BX;subst hx;cases hh:gh jG r.Seen x.Client with
 |true=>
  have ⟨hk,he⟩:=(h.inc.has x.Client).1 hh;rw [if_pos rfl];refine ⟨Yy (Yz hk he.symm) h.inc,by rw [afD];exact h.few,λy hy=> ?_⟩;rcases aie hy with hy|rfl
  .exact h.seen y hy
  .exact hc
 |false=>
  refine ⟨acI h.inc hh,by grind [acJ],λy hy=> ?_⟩;rcases MJ.1 hy with hy|rfl
  .exact h.seen y hy
  .exact hc
def Qc {r:aj}(h:dw r)(o:aa):dw (cK r o).1:=by
 unfold cK;cases hk:(ek r.Seen o).2 with
 |true=>exact h
 |false=>
  have ⟨hm,B1,I7,xO⟩:=z6 hk;have hp:=MK hm;have hd:DK ⟨r,o,(ek r.Seen o).1,[]⟩ (fC r o):=YC (w:=⟨r,o,(ek r.Seen o).1,[]⟩) h.todN;have hxc:(fC r o).x.Client=o.Client:=by rw [hd.eT,B1];rfl
  have hxs:(fC r o).x.Seq=o.Seq:=by rw [hd.seq,B1];rfl
  have ⟨s1,s2,s3⟩:=anD h hxc (by grind) (by grind [ajP]);refine ⟨⟨hd.shelf,hd.book,?_⟩,s1,s2,s3⟩;grind [Vv,ae7,hd.table,akG]
def aa2:aj:=⟨⟨[⟨[47],[],0,0⟩]⟩,⟨0,[]⟩,⟨[]⟩,[]⟩
def ajQ:D9=some aa2:=rfl
def FZ:dw aa2:=by
 refine ⟨⟨⟨abq,⟨λn hn=> ?_,by simp [aa2]⟩,⟨_,afG.2 rfl,rfl⟩,λn hn=> ?_,λn hn _=> ?_,λn hn hp=> ?_⟩,⟨abq,abq,List.Pairwise.nil,(λx hx=>by cases hx)⟩,⟨abq,(λx hx=>by cases hx),List.nodup_nil⟩⟩,List.Pairwise.nil,abq,(λx hx=>by cases hx)⟩
 .rw [afG.1 hn];decide
 .rw [afG.1 hn];decide
 .rw [afG.1 hn]
 .rw [afG.1 hn] at hp;grind
def SL (w:af)(k:Int):(sX k w).r=w.r:=by grind [sX]
def aa3 {L:List ab}{p value:List UInt8}{owner:Int}{n:ab}(hn:n∈(ic L p value owner).1):n∈L\/n.dt=owner:=by grind [ic,Vq]
def afb {L:List ab}(pF:eP L){p value:List UInt8}{version:Int}{n:ab}(hn:n∈(uN L p value version).1): ∃m∈L,m.dt=n.dt:=by
 unfold uN at hn;split at hn
 .rename_i he;have ⟨hf,_,_⟩:=acG he;rcases aie hn with hn|rfl
  .grind
  .have ⟨_,i,hi,h1,h2⟩:=MG hf;refine ⟨L[i],OF hi,?_⟩;unfold ea;rw [if_pos hf,h1,afB,By hi];rfl
 grind
def anE {L:List ab}{p:List UInt8}{version:Int}{n:ab}(hn:n∈(uy L p version).1):n∈L:=by grind [uy,Vw]
def YD {L:List ab}{id:Int}{n:ab}:n∈(cb L id).1↔n∈L/\ ¬(0<id/\n.dt=id):=by unfold cb;unfold p9;grind
def afc (ids:List Int): ∀{v:af} {n:ab},n∈(eU v ids).r.Shelf.L↔n∈v.r.Shelf.L/\ ∀i∈ids,¬(0<i/\n.dt=i):=by
 unfold eU;induction ids with
 |nil=>grind
 |cons i ids ih=>intro v n;have:n∈(oK v i).r.Shelf.L↔n∈v.r.Shelf.L/\ ¬(0<i/\n.dt=i):=YD;grind
noncomputable def awK (r:aj)(l:List aa):aj:=l.foldl (λr o=>(cK r o).1) r
def aa4 {w v:af}{k:Int}(h1:v.r.aD=w.r.aD)(h2:v.l=[]):(sX k v).r.aD=w.r.aD/\((sX k v).l≠[]->(sX k v).x.E=0):=by grind [sX,absurd]
def awL {w:af}(hp:dN w.r)(hk:0<=w.o.Kind/\w.o.Kind<=11)(hl:w.l=[]): ((BW w).r.aD=w.r.aD/\((BW w).l≠[]->(BW w).x.E=0))\/((w.o.Kind=10\/w.o.Kind=11)/\(BW w).l=[]/\(BW w).r.aD.L=(ql w.r.aD.L (ig w.o)).1):=by
 have aa5: ∀v:af,v.r.aD=w.r.aD->v.l=[]->v.r.aD=w.r.aD/\(v.l≠[]->v.x.E=0):=(by grind)
 unfold BW;split
 .grind
 split
 .left;unfold yw;split
  .exact aa5 _ rfl hl
  .exact aa4 rfl hl
 split
 .exact .inl (aa5 _ rfl hl)
 split
 .unfold Vx Qa;have hc:=aa4 (w:=w) (v:=lj w (uN w.r.Shelf.L w.o.Path w.o.Value w.o.Version)) (k:=2) rfl hl;grind
 split
 .exact .inl (aa4 rfl hl)
 split
 .exact .inl (aa5 _ rfl hl)
 split
 .exact .inl (aa5 _ rfl hl)
 split
 .exact .inl (aa5 _ rfl hl)
 split
 .left;unfold BJ;split
  .rename_i hz;exact ⟨rfl,λ_=>hz⟩
  .exact aa5 _ rfl hl
 split
 .left;unfold IA;split
  .rename_i he;have ⟨h1,h2,h3,h4,h5,h6⟩:=uq (rW w.r.aE w.o.Span) (v:=uO w) (lQ hp (Iz hp.book he));exact ⟨h6,λ_=>by rw [h3];rfl⟩
  .exact aa5 _ rfl hl
 .exact .inr ⟨aab,hl,rfl⟩
def ajR (L:List aq):iD L []=(L,[]):=rfl
def ID {r:aj}(h:dw r)(o:aa): (∀e∈(cK r o).2.2,e.W∈r.aD.L/\mB e.C e.W=true/\(cK r o).2.1.E=0)/\ (∀x∈(cK r o).1.aD.L,x∈r.aD.L\/(x=ig o/\(o.Kind=10\/o.Kind=11)))/\ ((cK r o).1.aD.L.length+(cK r o).2.2.length=r.aD.L.length\/((cK r o).2.2=[]/\(cK r o).1.aD.L.length=r.aD.L.length+1)):=by
 unfold cK;cases hk:(ek r.Seen o).2 with
 |true=>grind
 |false=>
  have ⟨hm,B1,I7,xO⟩:=z6 hk;have hp:=MK hm;rcases awL (w:=⟨r,o,(ek r.Seen o).1,[]⟩) h.todN hp.2.2.1 rfl with ⟨h1,h2⟩|⟨h1,h2,h3⟩
  .have h1:(fC r o).r.aD=r.aD:=h1;have h2:(fC r o).l≠[]->(fC r o).x.E=0:=h2;rw [h1];refine ⟨λe he=> ?_,λx hx=> ?_,.inl (Ks _ _)⟩
   .have ⟨g1,g2⟩:=asd _ _ e he;grind
   grind [Vv]
  .have h2:(fC r o).l=[]:=h2;have h3:(fC r o).r.aD.L=(ql r.aD.L (ig o)).1:=h3;rw [h2,ajR,h3];refine ⟨λe he=>(by cases he),λx hx=> ?_,?_⟩
   .grind [ql,afG]
   .unfold ql;grind
def rJ (x:aB):aw:=⟨x.Id,x.Span,x.kG⟩
def lk (x:ah):ay:=⟨x.Client,x.Seq,x.E,x.Value,x.Version,x.Names⟩
def bV (r:aj):bu:=⟨c9 r.Shelf,⟨r.aE.eh,r.aE.L.map rJ⟩,⟨r.aD.L.map uu⟩,r.Seen.map lk⟩
def VA (x:ah)(h:x.Names.length<2^60):CY (lk x) (lk x)=some true:=by unfold CY;rw [if_pos rfl,if_pos rfl,if_pos rfl,if_pos rfl,if_pos rfl,show (lk x).Names=x.Names from rfl,aaL _ _ h,decide_eq_true rfl];rfl
def IF (w:af)(k:Int):(sX k w).x=w.x:=by grind [sX]
def YE {L:List ah}(hs:tA jG L){c:Int}{x:ah}(hx:x.Client=c)(y:ah):y∈BX L c x↔y=x\/(y∈L/\y.Client≠c):=by
 unfold BX;subst hx;cases hh:gh jG L x.Client with
 |false=>
  rw [if_neg abq,MJ];constructor
  .rintro (h|h)
   .refine .inr ⟨h,λhe=> ?_⟩;have:gh jG L x.Client=true:=qx.2 ⟨y,h,he⟩;grind
   grind
  grind
 |true=>
  have ⟨hk,he⟩:=(hs.has x.Client).1 hh;have eR: ∀j (hj:j<L.length),j≠qw jG L x.Client->L[j].Client≠x.Client:=by
   intro j hj hjn hjc;have he:L[qw jG L x.Client].Client=x.Client:=he;rcases Nat.lt_or_gt_of_ne hjn with dX|dX
   .have h5:L[j].Client<L[qw jG L x.Client].Client:=hs.lt hk dX;omega
   .have h5:L[qw jG L x.Client].Client<L[j].Client:=hs.lt hj dX;omega
  rw [BY];constructor
  .grind
  .rintro (rfl|⟨hy,hyc⟩)
   .grind
   .obtain ⟨j,hj,rfl⟩:=BY.1 hy;grind
theorem anF {L:List ah}(hs:tA jG L){y:ah}(hy:y∈L):eM L y.Client=(y,true):=by
 have hh:gh jG L y.Client=true:=qx.2 ⟨y,hy,rfl⟩;have ⟨hk,he⟩:=(hs.has y.Client).1 hh;unfold eM;obtain ⟨j,hj,rfl⟩:=BY.1 hy;have hjk:j=qw jG L L[j].Client:=by
  have he:L[qw jG L L[j].Client].Client=L[j].Client:=he;rcases af2 j (qw jG L L[j].Client) with dX|Aa|dX
  .have h5:L[j].Client<L[qw jG L L[j].Client].Client:=hs.lt hk dX;omega
  .exact Aa
  .have h5:L[qw jG L L[j].Client].Client<L[j].Client:=hs.lt hj dX;omega
 grind
def ajS {L:List ah}{c:Int}(h: ∀y∈L,y.Client≠c):eM L c=(noR,false):=by simp_all [eM,gh,jG,qx,absurd]
def ajT {L:List ah}{c:Int}(hs:tA jG L)(h:(eM L c).2=true):(eM L c).1∈L/\(eM L c).1.Client=c:=by
 unfold eM at h⊢;cases hh:gh jG L c with
 |false=>grind
 |true=>have ⟨hk,he⟩:=(hs.has c).1 hh;grind
noncomputable def qd (st:aj×List ah×List aY)(o:aa):aj×List ah×List aY:=((cK st.1 o).1,st.2.1++[(cK st.1 o).2.1],st.2.2++(cK st.1 o).2.2)
noncomputable def cP (r:aj)(l:List aa):aj×List ah×List aY:=l.foldl qd (r,[],[])
def SM (l:List aa): ∀{st:aj×List ah×List aY},dw st.1->(l.foldl qd st).1=awK st.1 l/\dw (l.foldl qd st).1/\(l.foldl qd st).2.1.length=st.2.1.length+l.length/\(l.foldl qd st).2.2.length<=st.2.2.length+200 *l.length:=by
 induction l with
 |nil=>intro st h;exact ⟨rfl,h,rfl,abu⟩
 |cons o l ih=>
  intro st h;have Ql:(cK st.1 o).2.2.length<=200:=by
   have:=(ID h o).2.2;have:=h.table.len;rcases (ID h o).2.2 with h|⟨h,_⟩
   .omega
   .grind
  have ⟨h1,h2,h3,h4⟩:=ih (st:=qd st o) (Qc h o);refine ⟨h1,h2,?_,?_⟩;all_goals grind [qd,IT,sh,AI,ahQ]
def ajU (s:aj×List ah×List aY)(k:Int):abU:=(s.1.Shelf.L,s.1.aE.eh,s.1.aE.L,s.1.aD.L,s.1.Seen,s.2.1,s.2.2,k)
def YF {r:aj}(h:dw r)(l:List aa)(hl:l.length<=1000):wo r l=some (cP r l):=by
 have dR:Loop (qD l) (ajU (r,[],[]) 0)=some ((cP r l).1.Shelf.L,(cP r l).1.aE.eh,(cP r l).1.aE.L,(cP r l).1.aD.L,(cP r l).1.Seen,(cP r l).2.1,(cP r l).2.2):=by
  refine aM.eq (aM.count (λk=>ajU (cP r (l.take k)) (k:Int)) l.length (λ_=>True) rfl trivial (λk hk _=> ?_) (λ_=> ?_))
  .have hs:cP r (l.take (k+1))=qd (cP r (l.take k)) l[k]:=sW hk;rw [hs];have ⟨h1,h2,h3,h4⟩:=SM (l.take k) (st:=(r,[],[])) h;have h3:(cP r (l.take k)).2.1.length=0+(l.take k).length:=h3;have h4:(cP r (l.take k)).2.2.length<=0+200 *(l.take k).length:=h4;have h2:dw (cP r (l.take k)).1:=h2;rw [IN] at h3 h4;generalize cP r (l.take k)=s at h2 h3 h4;have ha:=afa h2 l[k];have Ql:(cK s.1 l[k]).2.2.length<=200:=by
    have:=h2.table.len;rcases (ID h2 l[k]).2.2 with h|⟨h,_⟩
    .omega
    .grind
   unfold qD ajU;dsimp only;rw [if_pos aab,aI hk];refine aM.of (a:=Sum.inl (ajU (qd s l[k]) ((k+1:Nat):Int))) (aK ha ?_) ?_;rotate_left
   .exact ⟨rfl,trivial⟩
   rw [ak,if_pos (by grind),if_pos aab,wrap64 aab aab];rfl
  .unfold qD ajU;dsimp only;rw [if_neg aab,ad1];exact .mk rfl
 exact aK dR rfl
def ahV {o:aa}(hu:bw o=some o)(h1:0<=o.Client/\o.Client<=1000)(h2:1<=o.Seq/\o.Seq<=1000000000)(h3:0<=o.Kind/\o.Kind<=11)(h4:o.Path.length<=100)(h5:o.Value.length<=1000):GR o=true:=by unfold GR dK;rw [if_pos h1.1,if_pos h1.2,if_pos h2.1,ak,decide_eq_true h2.2,if_pos rfl,if_pos h3.1,if_pos h3.2,if_pos aab,if_pos aab,hu,ak,ak];simp
theorem Lk {L:List ah}{o:aa}(hm:GR o=true)(h:((eM L o.Client).2=false/\L.length<50)\/((eM L o.Client).2=true/\(eM L o.Client).1.Seq<o.Seq)):ek L o=(cO o 0,false):=by unfold ek;grind
section
variable {α β:Type}{key:α->Int}
theorem YG {L:List α}(hs:tA key L){i j:Nat}(hi:i<L.length)(hj:j<L.length)(h:key L[i]=key L[j]):i=j:=by
 rcases af2 i j with h1|h1|h1
 .have:=hs.lt hj h1;omega
 .exact h1
 .have:=hs.lt hi h1;omega
def aa6 {L:List α}(hs:tA key L){c:Int}(h:gh key L c=true):L.filter (λx=>!decide (key x=c))=L.take (qw key L c)++L.drop (qw key L c+1):=by
 have ⟨hk,he⟩:=(hs.has c).1 h;generalize qw key L c=i at hk he;have hL:L=L.take i++L[i]::L.drop (i+1):=by rw [List.getElem_cons_drop,No]
 have h1:(L.take i).filter (λx=>!decide (key x=c))=L.take i:=by
  rw [akH];intro x hx;obtain ⟨j,hj,rfl⟩:=BY.1 hx;have Ta:j<i:=by have:=List.length_take_le i L;omega
  rw [alR];have:=hs.lt hk Ta;simp only [alX,decide_eq_false_iff_not];omega
 have h2:(L.drop (i+1)).filter (λx=>!decide (key x=c))=L.drop (i+1):=by rw [akH];intro x hx;obtain ⟨j,hj,rfl⟩:=BY.1 hx;rw [ahB];rw [ac4] at hj;have:=hs.lt (show i+1+j<L.length by omega) (show i<i+1+j by omega);simp only [alX,decide_eq_false_iff_not];omega
 grind
def anG {L:List α}(hs:tA key L){i:Nat}(hi:i<L.length)(f:α->α):L.set i (f L[i])=L.map λx=>if key x=key L[i] then f x else x:=by
 apply List.ext_getElem
 .simp
 .intro j h1 h2;rw [List.getElem_set,afv];by_cases hij:i=j
  .grind
  .rw [if_neg hij,if_neg (by grind [YG])]
def vv (L:List β)(x:β)(i d k:Nat):List β:=if k<=i then L.take k else L.take i++x::(L.take k).drop (i+d)
def IG {L:List β}{x:β}{i d k:Nat}(hk:k<=L.length):(vv L x i d k).length<=k+1:=by grind [vv,IN,IT,sh,ac4]
def YH {L:List β}{x:β}{i d k:Nat}(hk:k<L.length)(h:k<i):vv L x i d (k+1)=vv L x i d k++[L[k]]:=by unfold vv;rw [if_pos aab,if_pos aab,afJ,By hk];rfl
def acM {L:List β}{x:β}{i:Nat}(hk:i<L.length):vv L x i 0 (i+1)=(vv L x i 0 i++[x])++[L[i]]:=by unfold vv;rw [if_neg aab,if_pos aab,afJ,By hk,akz (by grind),ag7 (by grind)];simp
def anH {L:List β}{x:β}{i:Nat}(hk:i<L.length):vv L x i 1 (i+1)=vv L x i 1 i++[x]:=by simp_all [vv,if_neg,if_pos,ag7,IN]
def SN {L:List β}{x:β}{i d k:Nat}(hk:k<L.length)(h:i<k)(hd:d<=1):vv L x i d (k+1)=vv L x i d k++[L[k]]:=by unfold vv;rw [if_neg aab,if_neg aab,afJ,By hk,akz (by grind)];simp
end
abbrev VB (b:aA):cg:=⟨b.eh,b.L.map rJ⟩
def EI {b:aA}(h:b.L.length<2^40)(id:Int):td (VB b) id=some (gh fK b.L id):=by
 unfold td;have hl:(b.L.map rJ).length=b.L.length:=bD ..;have dR:aM (Loop (Ea (VB b) id) 0) λx=>(x= .inl ()/\gh fK b.L id=false)\/(x= .inr true/\gh fK b.L id=true):=by
  refine aM.count (λk=>(k:Int)) b.L.length (λk=> ∀j (hj:j<b.L.length),j<k->b.L[j].Id≠id) rfl (λj hj h=>aab) (λk hk hp=> ?_) (λhp=> ?_)
  .unfold Ea;dsimp only;rw [if_pos aab,aI aab,afv];by_cases he:b.L[k].Id=id
   .rw [if_pos (show (rJ b.L[k]).Id=id from he)];exact .mk (.inr ⟨rfl,(by grind [qx,OF])⟩)
   .rw [if_neg (show¬(rJ b.L[k]).Id=id from he),wrap64 aab aab];refine .mk ⟨aab,λj hj hjk=> ?_⟩;by_cases Ta:j=k
    .subst Ta;exact he
    .exact hp j hj aab
  .unfold Ea;dsimp only;rw [if_neg aab];refine .mk (.inl ⟨rfl,?_⟩);grind [qx,BY]
 obtain ⟨x,hx,h|h⟩:=dR;all_goals simp_all
theorem aa7 {b:aA}(h:kn b)(id span:Int):CU (VB b) id span=some (VB (BV b id span),rV b id span):=by
 have hl:(b.L.map rJ).length=b.L.length:=bD ..;have hlen:=h.len;have anv:=h.now;unfold CU BV;have hg:(if id<1 then some true else if span<1 then some true else some (decide ((1000:Int)<span)))=some (decide (id<1\/span<1\/1000<span)):=Yx;rw [hg,ak];unfold rV;by_cases h1:id<1\/span<1\/1000<span
 .grind
 rw [decide_eq_false h1,if_neg abq,if_neg h1,EI aab,ak];cases h2:gh fK b.L id with
 |true=>rfl
 |false=>
 rw [if_neg (show¬false=true by decide),if_neg (show¬false=true by decide)];by_cases h3:50<=b.L.length
 .rw [if_pos (show (50:Int)<=((VB b).L.length:Int) by show (50:Int)<=((b.L.map rJ).length:Int);omega),if_pos h3,if_neg abq]
 rw [if_neg (show¬(50:Int)<=((VB b).L.length:Int) by show¬(50:Int)<=((b.L.map rJ).length:Int);omega),if_neg h3,if_pos rfl];have hlb:=h.inc.lb id;have eR: ∀k (hk:k<b.L.length),b.L[k].Id≠id:=λk hk he=>by
  have:gh fK b.L id=true:=(by grind [qx,OF])
  grind
 have hil:=T4 (key:=fK) b.L id;generalize hi:qw fK b.L id=i at hlb hil;have aA2: ∀(M:List aw) (x:aw),M.length=b.L.length->vv M x i 0 b.L.length++(if i=b.L.length then [x] else [])=M.take i++[x]++M.drop i:=by
  intro M x hM;unfold vv;by_cases he:i=b.L.length
  .grind
  .grind
 have hw:AT .i64 ((VB b).eh+span)=b.eh+span:=(by grind [wrap64])
 have dR:Loop (wE (VB b) id span) (([]:List aw),false,0)=some (vv (b.L.map rJ) ⟨id,span,b.eh+span⟩ i 0 b.L.length,decide (i<b.L.length)):=by
  refine aM.eq (aM.count (λk=>(vv (b.L.map rJ) ⟨id,span,b.eh+span⟩ i 0 k,decide (i<k),(k:Int))) b.L.length (λ_=>True) (by simp [vv]) trivial (λk hk _=> ?_) (λ_=> ?_))
  .unfold wE;have hml:= @IG _ (b.L.map rJ) ⟨id,span,b.eh+span⟩ i 0 k aab;dsimp only;rw [if_pos aab,hw];rcases af2 k i with dX|Aa|Nw
   .have hlk:b.L[k].Id<id:=hlb.1 k hk dX;rw [decide_eq_false aab,if_pos (by grind),aI aab,afv,decide_eq_false (show¬id<(rJ b.L[k]).Id by show¬id<b.L[k].Id;omega),ak,if_neg abq,ak,aI aab,if_pos (by grind),wrap64 aab aab,YH aab dX,decide_eq_false aab];exact .mk ⟨rfl,trivial⟩
   .subst Aa;have hlk:id<=b.L[k].Id:=(by grind)
    have hnk:=eR k hk;rw [decide_eq_false aab,if_pos (by grind),aI aab,afv,decide_eq_true (show id<(rJ b.L[k]).Id by show id<b.L[k].Id;omega),ak,if_pos rfl,if_pos (by grind),ak,aI aab];rw [if_pos (by grind),wrap64 aab aab,acM aab,decide_eq_true aab];exact .mk ⟨rfl,trivial⟩
   .rw [decide_eq_true Nw,if_neg abq,ak,if_neg abq,ak,aI aab,if_pos (by grind),wrap64 aab aab,SN aab Nw aab,decide_eq_true aab];exact .mk ⟨rfl,trivial⟩
  .unfold wE;dsimp only;rw [if_neg aab];exact .mk rfl
 rw [dR,ak];dsimp only;have hml:= @IG _ (b.L.map rJ) ⟨id,span,b.eh+span⟩ i 0 b.L.length aab;have ann:(Jj fK b.L ⟨id,span,b.eh+span⟩).map rJ=(b.L.map rJ).take i++[⟨id,span,b.eh+span⟩]++(b.L.map rJ).drop i:=by unfold Jj;rw [show fK (⟨id,span,b.eh+span⟩:aB)=id from rfl,hi];simp only [ab2,aft,afu,afw,afz];rfl
 have ND:=aA2 (b.L.map rJ) ⟨id,span,b.eh+span⟩ aab;by_cases he:i=b.L.length
 .rw [if_pos he] at ND;rw [decide_eq_false aab,if_pos (by grind),if_pos (by grind),ak,hw,ND,<-ann]
 .rw [if_neg he,ahs] at ND;rw [decide_eq_true aab,if_neg abq,ak,ND,<-ann]
def YI {b:aA}(h:kn b)(id:Int):zt (VB b) id=some (VB (nY b id).1,(nY b id).2):=by
 have hl:(b.L.map rJ).length=b.L.length:=bD ..;have hlen:=h.len;have anv:=h.now;unfold zt nY;rw [EI aab,ak];cases h2:gh fK b.L id with
 |false=>rfl
 |true=>
 have ⟨hk,he⟩:=(h.inc.has id).1 h2;have agL:=anG h.inc hk λy=>(⟨y.Id,y.Span,b.eh+y.Span⟩:aB)
 have he:b.L[qw fK b.L id].Id=id:=he;have dR:Loop (tK (VB b) id) (([]:List aw),0)=some (b.L.map λx=>rJ (if fK x=fK b.L[qw fK b.L id] then ⟨x.Id,x.Span,b.eh+x.Span⟩ else x)):=by
  refine ajx b.L _ (λk hk=> ?_) ?_
  .unfold tK;have hx:=h.all _ (OF hk);have hml:= @ajw _ _ (λx=>rJ (if fK x=fK b.L[qw fK b.L id] then ⟨x.Id,x.Span,b.eh+x.Span⟩ else x)) b.L k;dsimp only;rw [if_pos aab,aI aab,afv,wrap64 (show-9223372036854775808<=(k:Int)+1 by omega) aab];by_cases hid:b.L[k].Id=id
   .rw [if_pos (show (rJ b.L[k]).Id=id from hid),ak,if_pos (by simp;omega),if_pos (show b.L[k].Id=b.L[qw fK b.L id].Id by rw [hid,he]),wrap64 (show-9223372036854775808<=b.eh+(rJ b.L[k]).Span by show _<=b.eh+b.L[k].Span;omega) (by show b.eh+b.L[k].Span<=_;omega)];rfl
   .rw [if_neg (show¬(rJ b.L[k]).Id=id from hid),ak,if_pos (by simp;omega),if_neg (show¬b.L[k].Id=b.L[qw fK b.L id].Id by rw [he];exact hid)];rfl
  .simp_all [tK,if_neg]
 simp_all
def YJ {b:aA}(h:kn b)(id:Int):zu (VB b) id=some (VB (cW b id).1,(cW b id).2):=by
 have hl:(b.L.map rJ).length=b.L.length:=bD ..;have hlen:=h.len;unfold zu cW;rw [EI aab,ak];cases h2:gh fK b.L id with
 |false=>rfl
 |true=>
 have dR:Loop (ye (VB b) id) (([]:List aw),0)=some ((b.L.map rJ).filter λx=>!decide (x.Id=id)):=by
  refine Yw (b.L.map rJ) _ (λk hk=> ?_) ?_
  .unfold ye;dsimp only;rw [if_pos aab,aI hk,aI hk,wrap64 aab aab];by_cases hid:(b.L.map rJ)[k].Id=id
   .simp_all
   .rw [decide_eq_false hid,if_pos (by grind),if_pos (by grind),ak];simp
  .simp_all [ye,if_neg]
 rw [dR,ak,List.filter_map];have hf:=aa6 h.inc h2;rw [<-hf];rfl
def aa8 {b:aA}(h:kn b)(now:Int):CV (VB b) now=some (if rC b now=0 then (VB (SJ b now),rW b now,0) else (VB b,[],rC b now)):=by
 have hl:(b.L.map rJ).length=b.L.length:=bD ..;have hlen:=h.len;unfold CV rC;by_cases h1:now<b.eh
 .grind
 rw [if_neg h1,if_neg h1];by_cases h2:1000000000<now
 .grind
 rw [if_neg h2,if_neg h2,if_pos rfl];have dR:Loop (wF (VB b) now) (([]:List aw),([]:List Int),0)=some ((b.L.filter λx=>!z1 now x).map rJ,rW b now):=by
  refine aM.eq (aM.count (λk=>(((b.L.take k).filter (λx=>!z1 now x)).map rJ,((b.L.take k).filter (z1 now)).map (·.Id),(k:Int))) b.L.length (λ_=>True) abu trivial (λk hk _=> ?_) (λ_=> ?_))
  .unfold wF;dsimp only;rw [if_pos aab,aI aab,aI aab,aI aab,afv,lP hk,lP hk,wrap64 aab aab];by_cases hg:b.L[k].kG<=now
   .have hb:z1 now b.L[k]=true:=decide_eq_true hg;rw [if_pos (show (rJ b.L[k]).kG<=now from hg),if_pos (by grind),ak];simp only [hb,if_true,akn,afF,if_false,ahs,ab2,afw,afz];exact .mk ⟨rfl,trivial⟩
   .have hb:z1 now b.L[k]=false:=decide_eq_false hg;rw [if_neg (show¬(rJ b.L[k]).kG<=now from hg),if_pos (by grind),ak];simp only [hb,if_true,agO,afF,if_false,ahs,ab2,afw,afz];exact .mk ⟨rfl,trivial⟩
  .unfold wF;dsimp only;rw [if_neg aab,ad1];exact .mk rfl
 rw [dR,ak];rfl
def Qd {r:aj}(h:dw r)(c:Int):wz (bV r) c=some (lk (eM r.Seen c).1,(eM r.Seen c).2):=by
 have hf:=h.few;have hl:(r.Seen.map lk).length=r.Seen.length:=bD ..;unfold wz;have dR:aM (Loop (Ol (bV r) c) (0,0,0,([]:List UInt8),0,([]:List (List UInt8)),0)) λx=>(x= .inl (0,0,0,[],0,[])/\eM r.Seen c=(noR,false))\/ ∃y,eM r.Seen c=(y,true)/\x= .inr (y.Client,y.Seq,y.E,y.Value,y.Version,y.Names,true):=by
  refine aM.count (λk=>(0,0,0,([]:List UInt8),0,([]:List (List UInt8)),(k:Int))) r.Seen.length (λk=> ∀j (hj:j<r.Seen.length),j<k->r.Seen[j].Client≠c) rfl (λj hj h=>aab) (λk hk hp=> ?_) (λhp=> ?_)
  .show aM (if (k:Int)<((r.Seen.map lk).length:Int) then _ else _) _;rw [if_pos aab];show aM (ix (r.Seen.map lk) (k:Int) _) _;rw [aI aab,afv];by_cases he:r.Seen[k].Client=c
   .rw [if_pos (show (lk r.Seen[k]).Client=c from he)];show aM (ix (r.Seen.map lk) (k:Int) _) _;rw [aI aab,afv];refine .mk (.inr ⟨r.Seen[k],?_,rfl⟩);grind [anF,h.inc,OF]
   .rw [if_neg (show¬(lk r.Seen[k]).Client=c from he)];dsimp only;rw [wrap64 aab aab];refine .mk ⟨by rfl,λj hj hjk=> ?_⟩;by_cases Ta:j=k
    .subst Ta;exact he
    .exact hp j hj aab
  .show aM (if (r.Seen.length:Int)<((r.Seen.map lk).length:Int) then _ else _) _;rw [if_neg aab];refine .mk (.inl ⟨rfl,ajS λy hy=> ?_⟩);grind [BY]
 obtain ⟨x,hx,⟨h1,h2⟩|⟨y,h1,h2⟩⟩:=dR
 .rw [hx,h1,h2];rfl
 .rw [hx,h1,h2];rfl
theorem aa9 {r:aj}(h:dw r){x:ah}{c:Int}(hx:x.Client=c):wH (r.Seen.map lk) (lk x)=some ((BX r.Seen c x).map lk):=by
 have hf:=h.few;have hl:(r.Seen.map lk).length=r.Seen.length:=bD ..;subst hx;have hlb:=h.inc.lb x.Client;have hil:=T4 (key:=jG) r.Seen x.Client;have awM:=h.inc.has x.Client;have hno:gh jG r.Seen x.Client=false-> ∀k (hk:k<r.Seen.length),r.Seen[k].Client≠x.Client:=λh2 k hk he=>by
  have:gh jG r.Seen x.Client=true:=(by grind [qx,OF])
  grind
 have aGx:=λ(i:Nat) (hi:i<r.Seen.length) (j:Nat) (hj:j<r.Seen.length) (he:r.Seen[i].Client=r.Seen[j].Client)=>YG h.inc hi hj he;have hP:(BX r.Seen x.Client x).map lk=(r.Seen.map lk).take (qw jG r.Seen x.Client)++lk x::(r.Seen.map lk).drop (qw jG r.Seen x.Client+if gh jG r.Seen x.Client then 1 else 0):=by
  unfold BX;cases hh:gh jG r.Seen x.Client with
  |true=>have ⟨hk,_⟩:=awM.1 hh;rw [if_pos rfl,if_pos rfl,afC,List.set_eq_take_append_cons_drop,if_pos aab]
  |false=>unfold Jj;simp_all
 rw [hP];generalize hi:qw jG r.Seen x.Client=i at hlb hil awM;generalize hM:r.Seen.map lk=M at hl;have hMk: ∀k (hk:k<r.Seen.length),(M[k]' aab).Client=r.Seen[k].Client:=λk hk=>by subst hM;rw [afv];rfl
 have hd: ∃d:Nat,(if gh jG r.Seen x.Client then 1 else 0)=d/\d<=1/\((d=1/\ ∃hk:i<r.Seen.length,r.Seen[i].Client=x.Client)\/(d=0/\ ∀k (hk:k<r.Seen.length),r.Seen[k].Client≠x.Client)):=by
  cases hh:gh jG r.Seen x.Client with
  |true=>grind
  |false=>grind
 have ⟨d,e1,hd1,hd2⟩:=hd;rw [e1];unfold wH;have dR:Loop (AL M (lk x)) (([]:List ay),false,0)=some (vv M (lk x) i d M.length,decide (i<M.length)):=by
  refine aM.eq (aM.count (λk=>(vv M (lk x) i d k,decide (i<k),(k:Int))) M.length (λ_=>True) (by simp [vv]) trivial (λk hk _=> ?_) (λ_=> ?_))
  .unfold AL;have hml:= @IG _ M (lk x) i d k aab;have Lw:k<r.Seen.length:=aab
   have hck:=hMk k Lw;dsimp only;rw [if_pos aab];rcases af2 k i with dX|Aa|Nw
   .have hlk:r.Seen[k].Client<x.Client:=hlb.1 k Lw dX;rw [decide_eq_false (show¬i<k by omega),if_pos (show (!false)=true from rfl),aI hk,decide_eq_false (show¬(lk x).Client<=M[k].Client by show¬x.Client<=_;omega),ak,if_neg abq,ak,aI hk,decide_eq_false (show¬M[k].Client=(lk x).Client by show¬_=x.Client;omega),if_pos (show (!false)=true from rfl),aI hk,if_pos (by simp;omega),ak,wrap64 aab aab,YH hk dX,decide_eq_false (by grind)];exact .mk ⟨rfl,trivial⟩
   .subst Aa;have hlk:x.Client<=r.Seen[k].Client:=hlb.2 k Lw (agG _);rw [decide_eq_false (show¬k<k by omega),if_pos (show (!false)=true from rfl),aI hk,decide_eq_true (show (lk x).Client<=M[k].Client by rw [hck];exact hlk),ak,if_pos rfl,if_pos (by simp;omega),ak,aI hk,wrap64 aab aab];rcases hd2 with ⟨rfl,_,hc⟩|⟨rfl,hc⟩
    .rw [decide_eq_true (by grind [lk]),if_neg abq,ak,anH hk,decide_eq_true (show k<k+1 by omega)];exact .mk ⟨rfl,trivial⟩
    .rw [decide_eq_false (show¬M[k].Client=(lk x).Client by rw [hck];exact hc k Lw),if_pos (show (!false)=true from rfl),aI hk,if_pos (by simp;omega),ak,acM hk,decide_eq_true (show k<k+1 by omega)];exact .mk ⟨rfl,trivial⟩
   .have eR: ¬M[k].Client=(lk x).Client:=by
     rw [hck];show¬r.Seen[k].Client=x.Client;rcases hd2 with ⟨_,hk3,hc⟩|⟨_,hc⟩
     .grind
     .exact hc k Lw
    rw [decide_eq_true Nw,if_neg abq,ak,if_neg abq,ak,aI hk,decide_eq_false eR,if_pos (show (!false)=true from rfl),aI hk,if_pos (by simp;omega),ak,wrap64 aab aab,SN hk Nw hd1,decide_eq_true (show i<k+1 by omega)];exact .mk ⟨rfl,trivial⟩
  .unfold AL;dsimp only;rw [if_neg aab];exact .mk rfl
 rw [dR,ak];dsimp only;have hml:= @IG _ M (lk x) i d M.length (agG _);by_cases he:i=M.length
 .have hd0:d=0:=by
   rcases hd2 with ⟨_,hk3,_⟩|⟨h0,_⟩
   .omega
   .exact h0
  rw [decide_eq_false (by grind),if_pos (by grind),if_pos (by grind),ak,hd0];unfold vv;grind
 .rw [decide_eq_true (by grind),if_neg abq,ak];unfold vv;grind
end
end Dn.S
