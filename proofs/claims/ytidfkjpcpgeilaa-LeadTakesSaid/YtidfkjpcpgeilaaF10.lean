/- Walk 10. -/

import Derived.Test.YtidfkjpcpgeilaaF9
open Go Go.Abs Go.Proofs
set_option maxRecDepth 100000
set_option maxHeartbeats 4000000
set_option linter.unusedSimpArgs false
set_option linter.unusedVariables false
open Ldr
theorem Rows0 {h:Nat} {σ:AS} {sz:Nat}:Rows h σ [(sz, .nils,[])]:=⟨fun e he=>by
  rw[List.mem_singleton] at he; subst he; exact .inl ⟨rfl,rfl⟩,List.pairwise_singleton _ _⟩
theorem at_slot {s:Int} (h:0≤s∧s≤1000):kindI.at? (.int .i64 s)=some s:=by
 have hw:(Lit.int .i64 s).wf=true:=by
  obtain ⟨h1,h2⟩:=h
  simp only[Lit.wf,IntKind.min,IntKind.max,IntKind.signed,IntKind.bits,Bool.and_eq_true,decide_eq_true_eq]
  refine ⟨?_,?_⟩<;> simp <;> omega
 simp only[kindI,hw,if_true]
theorem keys_of: ∀{M:List Pr},(∀v∈M,0≤v.s∧v.s≤1000)→keyListA kindI (M.map entP)=some (M.map (·.s))
 | [],_=>rfl
 | v :: M,h=>by
  simp only[List.map_cons,keyListA,entP,at_slot (h v (by simp)),keys_of (M:=M) (fun x hx=>h x (by simp[hx]))]
theorem leI_iff {a b:Int}:leI a b=true↔a≤b:=by simp[leI]
theorem sorted_of {L:List Pr} (hL:L.Pairwise fun a b=>a.s<b.s):isortB leI (L.map (·.s))=L.map (·.s):=by
 have hs:=isortB_sorted (le:=leI) (fun a b c h1 h2=>by rw[leI_iff] at *; omega) (fun a b=>by
  rw[Bool.or_eq_true,leI_iff,leI_iff]; omega) (L.map (·.s))
 refine List.Perm.eq_of_pairwise (le:=fun a b=>leI a b=true) (fun a b _ _ h1 h2=>?_) hs ?_ (isortB_perm _)
 ·rw[leI_iff] at h1 h2; omega
 ·rw[List.pairwise_map]
  exact hL.imp fun h=>by rw[leI_iff]; omega
theorem sort_c (hp s:List AObj) (m i:Nat) (L:List Pr) (hL:L.Pairwise fun a b=>a.s<b.s) (hok: ∀v∈L,0≤v.s∧v.s≤1000) (hlen:L.length≤1000) (h1:hp[i]?=some (.cells [.map (.hp m)])) (h2:hp[m]?=some (.map (L.map entP))) (ro:Option Nat):
  callW Try.prog how 32 [.fn (.func 50) [] [.ptr (.hp i) 0]] ⟨hp,s⟩ ro=some (slV 1 (L.map fun e=>AV.int .i64 e.s),⟨hp,s⟩):=by
 refine callW_prim (p:=orP (sortedA kindI 50) (sortedA kindI 68)) rfl ?_
 have hle:(L.map (·.s)).length≤kindI.most:=by
  rw[List.length_map]
  exact Nat.le_trans hlen (by decide)
 have:sortedA kindI 50 [.fn (.func 50) [] [.ptr (.hp i) 0]] ⟨hp,s⟩ ro=some (slV 1 (L.map fun e=>AV.int .i64 e.s),⟨hp,s⟩):=by
  simp only[sortedA,AS.get,h1,h2,keys_of hok,if_true,hle]
  rw[show kindI.le=leI from rfl,sorted_of hL,slK_eq,List.map_map]
  rfl
 unfold orP
 rw[this]
theorem rdK (σ:AS) (L:List Pr):Rd Try.prog σ 93 3 (slV 1 (L.map fun e=>AV.int .i64 e.s)) (L.map fun e=>AV.int .i64 e.s):=
 rd_slV (by simp) s3 (by decide) fun c hc=>by
  obtain ⟨v,_,rfl⟩:=List.mem_map.1 hc
  simp[partA,aggA,isAggD,AV.cells]
theorem appV:AppOk Try.prog 32 4 40:=⟨49, .slice 49,by simp[elemA],by simp,by simp,by kernel_rfl,rfl,by decide,by simp[AV.cells]⟩
section
attribute [local simp] ofV ofCell ofCells seqA_nil seqA_cons seqVK_eq seqEK_eq wantedA yieldedA isVal effA ev evs evps putE optsA optsOk valA fieldAddrA fieldA loadA partA aggA isAggD buildA placesA fillA lay storeA AV.withCells buildSliceA elemsA rowParts fzL promL okE isSrc bytesOk pushA cxOf lenA binA intBinA strBinA unA indexAddrA eqA AVs.inb AV.inb Loc.inb calleeA opsOf sub bodyOf Env.get_set quietA_nil quietA_cons quietK_none quietK_some qstep newA isNew escNew boxOk newLoc flat rowPartsQ quietN quietOp isBS List.takeWhile finishA_eq finK_ret finK_normal retK backK resA oneA AV.back AVs.back execW_seq_eq seqK_normal seqK_ret seqK_exit execW_cond_eq condK_true condK_false execW_block_eq blockK_exit blockK_normal blockK_ret execW_region_eq regK_eq execW_skip execW_exit execW_ret regionA_plain regionA_quiet0 tailK_eq nilCheckA guardOk isConst lookupA keyFits mapUpdateA beqI bneI
theorem keys_c (hp s:List AObj) (m:Nat):
  callW Try.prog how 33 [.map (.hp m)] ⟨hp,s⟩ none=some (.fn (.func 50) [] [.ptr (.hp hp.length) 0],⟨hp++ [.cells [.map (.hp m)]],s⟩):=by
 refine callW_body (fl:={esc:= [1]}) (fn:=Try.f33) (c:=bodyOf Try.f33) rfl Try.func33 rfl ?_
 have henv: ∃e,e=frameA Try.f33 [.map (.hp m)]:=⟨_,rfl⟩
 obtain ⟨env,henv⟩:=henv
 have hl:env.length=4:=by rw[henv]; rfl
 have h0:Env.get env 0= .map (.hp m):=by rw[henv]; rfl
 rw[←henv]
 clear henv
 simp -implicitDefEqProofs [Try.f33,hl,h0]
end
namespace LOpen
noncomputable def cr (p:List Dir):Code:=sub p (bodyOf Try.f12)
theorem find_asc: ∀{L:List Pr} {e:Pr},(L.Pairwise fun a b=>a.s<b.s)→e∈L→(L.find? fun x=>decide (x.s=e.s))=some e
 | [],_,_,h=>by cases h
 | y :: L,e,hp,h=>by
  have hp':=List.pairwise_cons.1 hp
  rcases List.mem_cons.1 h with rfl | h
  ·simp
  ·have:=hp'.1 e h
   rw[List.find?_cons_of_neg (by simp; omega)]
   exact find_asc hp'.2 h
section
attribute [local simp] ofV ofCell ofCells seqA_nil seqA_cons seqVK_eq seqEK_eq wantedA yieldedA isVal effA ev evs evps putE optsA optsOk valA fieldAddrA fieldA loadA partA aggA isAggD buildA placesA fillA lay storeA AV.withCells buildSliceA elemsA rowParts fzL promL okE isSrc bytesOk pushA cxOf lenA binA intBinA strBinA unA indexAddrA eqA AVs.inb AV.inb Loc.inb calleeA opsOf sub bodyOf Env.get_set quietA_nil quietA_cons quietK_none quietK_some qstep newA isNew escNew boxOk newLoc flat rowPartsQ quietN quietOp isBS List.takeWhile finishA_eq finK_ret finK_normal retK backK resA oneA AV.back AVs.back execW_seq_eq seqK_normal seqK_ret seqK_exit execW_cond_eq condK_true condK_false execW_block_eq blockK_exit blockK_normal blockK_ret execW_region_eq regK_eq execW_skip execW_exit execW_ret regionA_plain regionA_quiet0 tailK_eq nilCheckA guardOk isConst lookupA keyFits mapUpdateA beqI bneI
theorem rA (cx:Cx) (env:Env) (σ:AS) (hlen:env.length=40) (hcx:cx.esc= []):
  Pc Try.prog how cx [] 40 [2] (cr [.l]) env σ (.normal) (σ) (fun env'=>Env.get env' 2= .nils):=by
 refine pc_of fun res hr=>?_
 simp -implicitDefEqProofs [AS.get_push_at,AS.get_push_old,AS.push_len,AS.set_st_len,AS.next_st',AS.set_push_at,AS.get_set_self,AS.get_set_other,cr,Try.f12,hlen,hcx] at hr
 subst hr
 refine ⟨_,rfl,by simp[hlen],by simp[Env.get_set,hlen],fun i hi=>?_⟩
 simp only[List.mem_cons,List.not_mem_nil,or_false,not_or] at hi
 simp only[putE,get_set2,hi,false_and,if_false]
theorem rB (cx:Cx) (env:Env) (σ:AS) (hlen:env.length=40) (hcx:cx.esc= []):
  Pc Try.prog how cx [] 40 [3] (cr [.r, .l]) env σ (.normal) (σ) (fun env'=>Env.get env' 3= .nils):=by
 refine pc_of fun res hr=>?_
 simp -implicitDefEqProofs [AS.get_push_at,AS.get_push_old,AS.push_len,AS.set_st_len,AS.next_st',AS.set_push_at,AS.get_set_self,AS.get_set_other,cr,Try.f12,hlen,hcx] at hr
 subst hr
 refine ⟨_,rfl,by simp[hlen],by simp[Env.get_set,hlen],fun i hi=>?_⟩
 simp only[List.mem_cons,List.not_mem_nil,or_false,not_or] at hi
 simp only[putE,get_set2,hi,false_and,if_false]
theorem r2 (cx:Cx) (env:Env) (σ:AS) (a:Nat) (me n st br bn fr pr nx:Int) (B O:AV) (hp s:List AObj) (hlen:env.length=40) (hcx:cx.esc= []) (f0:Env.get env 0= .ptr (.hp a) 0) (hσ:σ=⟨hp,s⟩) (k1:callW Try.prog how 16 [.ptr (.hp a) 0] ⟨hp,s⟩ cx.ro=some (.int .i64 st,⟨hp,s⟩)):
  Pc Try.prog how cx [] 40 [6,7,8] (cr [.r, .r, .l, .l]) env σ (.normal) (AS.mk hp s) (fun env'=>Env.get env' 8= .bool (!decide (st=2))):=by
 refine pc_of fun res hr=>?_
 simp -implicitDefEqProofs [AS.get_push_at,AS.get_push_old,AS.push_len,AS.set_st_len,AS.next_st',AS.set_push_at,AS.get_set_self,AS.get_set_other,cr,Try.f12,hlen,hcx,f0,hσ,k1] at hr
 subst hr
 refine ⟨_,rfl,by simp[hlen],by simp[Env.get_set,hlen,f0,hσ,k1],fun i hi=>?_⟩
 simp only[List.mem_cons,List.not_mem_nil,or_false,not_or] at hi
 simp only[putE,get_set2,hi,false_and,if_false]
theorem r3 (cx:Cx) (env:Env) (σ:AS) (hlen:env.length=40) (hcx:cx.esc= []):
  Pc Try.prog how cx [] 40 [2] (cr [.r, .r, .l, .r, .l, .l]) env σ (.normal) (σ) (fun env'=>Env.get env' 2= .nils):=by
 refine pc_of fun res hr=>?_
 simp -implicitDefEqProofs [AS.get_push_at,AS.get_push_old,AS.push_len,AS.set_st_len,AS.next_st',AS.set_push_at,AS.get_set_self,AS.get_set_other,cr,Try.f12,hlen,hcx] at hr
 subst hr
 refine ⟨_,rfl,by simp[hlen],by simp[Env.get_set,hlen],fun i hi=>?_⟩
 simp only[List.mem_cons,List.not_mem_nil,or_false,not_or] at hi
 simp only[putE,get_set2,hi,false_and,if_false]
theorem r4 (cx:Cx) (env:Env) (σ:AS) (a mo:Nat) (me n st br bn fr pr nx:Int) (B:AV) (X:AV) (n0:Nat) (hp2:List AObj) (hp s:List AObj) (hlen:env.length=40) (hcx:cx.esc= []) (f0:Env.get env 0= .ptr (.hp a) 0) (hσ:σ=⟨hp,s⟩) (hro0:cx.ro=none) (hA:(AS.mk hp s).get (.hp a)=some (.cells [.int .i64 me, .int .i64 n, .int .i64 st, .int .u64 br, .int .i64 bn, .int .i64 fr, .int .u8 pr,B, .map (.hp mo), .int .i64 nx])) (k2:callW Try.prog how 33 [.map (.hp mo)] ⟨hp,s⟩ none=some (.fn (.func 50) [] [.ptr (.hp hp.length) 0],⟨hp2,s⟩)) (k3:callW Try.prog how 32 [.fn (.func 50) [] [.ptr (.hp hp.length) 0]] ⟨hp2,s⟩ none=some (X,⟨hp2,s⟩)) (hl:lenA Try.prog ⟨hp2,s⟩ 93 X=some n0):
  Pc Try.prog how cx [] 40 [9,10,11,12,13,14,15,16] (cr [.r, .r, .r, .l, .l]) env σ (.normal) (AS.mk hp2 s) (fun env'=>Env.get env' 14=X∧Env.get env' 15= .int .i64 (n0:Int)∧Env.get env' 16= .int .i64 0):=by
 refine pc_of fun res hr=>?_
 simp -implicitDefEqProofs [-lenA,AS.get_push_at,AS.get_push_old,AS.push_len,AS.set_st_len,AS.next_st',AS.set_push_at,AS.get_set_self,AS.get_set_other,cr,Try.f12,hlen,hcx,f0,hσ,hro0,hA,k2,k3,hl] at hr
 subst hr
 refine ⟨_,rfl,by simp[hlen],by simp[Env.get_set,hlen,f0,hσ,hro0,hA,k2,k3,hl],fun i hi=>?_⟩
 simp only[List.mem_cons,List.not_mem_nil,or_false,not_or] at hi
 simp only[putE,get_set2,hi,false_and,if_false]
theorem rE (cx:Cx) (env:Env) (σ:AS) (k:Nat) (X pp:AV) (x:Int) (hlen:env.length=40) (hcx:cx.esc= []) (f14:Env.get env 14=X) (f16:Env.get env 16= .int .i64 (k:Int)) (hia:indexAddrA Try.prog σ 93 X (.int .i64 (k:Int))=some pp) (hpa:loadA Try.prog σ 3 pp=some (.int .i64 x)):
  Pc Try.prog how cx [] 40 [5,18,19] (cr [.r, .r, .r, .l, .r, .i, .i, .r, .r, .l, .i, .l]) env σ (.normal) (σ) (fun env'=>Env.get env' 5= .int .i64 x):=by
 refine pc_of fun res hr=>?_
 simp -implicitDefEqProofs [-indexAddrA,-loadA,AS.get_push_at,AS.get_push_old,AS.push_len,AS.set_st_len,AS.next_st',AS.set_push_at,AS.get_set_self,AS.get_set_other,cr,Try.f12,hlen,hcx,f14,f16,hia,hpa] at hr
 subst hr
 refine ⟨_,rfl,by simp[hlen],by simp[Env.get_set,hlen,f14,f16,hia,hpa],fun i hi=>?_⟩
 simp only[List.mem_cons,List.not_mem_nil,or_false,not_or] at hi
 simp only[putE,get_set2,hi,false_and,if_false]
theorem rF (cx:Cx) (env:Env) (σ:AS) (a mo:Nat) (me n st br bn fr pr nx:Int) (B:AV) (x m:Int) (i:Nat) (v:ByteArray) (R R':AV) (σ':AS) (hlen:env.length=40) (hcx:cx.esc= []) (f0:Env.get env 0= .ptr (.hp a) 0) (f3:Env.get env 3=R) (f5:Env.get env 5= .int .i64 x) (hA:σ.get (.hp a)=some (.cells [.int .i64 me, .int .i64 n, .int .i64 st, .int .u64 br, .int .i64 bn, .int .i64 fr, .int .u8 pr,B, .map (.hp mo), .int .i64 nx])) (hlk:lookupA Try.prog σ 76 (.map (.hp mo)) (.int .i64 x) false=some (.ptr (.hp i) 0)) (hP:σ.get (.hp i)=some (.cells [.str v, .int .u8 m])) (hap:appendA Try.prog cx (AS.mk σ.hp (σ.st++ [.row [.agg [.int .i64 x, .int .u64 br, .int .i64 bn, .str v]] 4 0 false])) [32,32] R (.row (.st σ.st.length) 0 0 1)=some (R',σ')):
  Pc Try.prog how cx [] 40 [3,20,21,22,23,24,25,26,27,28,29,30,31,32,33,34,35,36,37] (cr [.r, .r, .r, .l, .r, .i, .i, .r, .r, .l, .i, .r]) env σ (.normal) (σ') (fun env'=>Env.get env' 3=R'):=by
 refine pc_of fun res hr=>?_
 simp -implicitDefEqProofs [-lookupA,AS.get_push_at,AS.get_push_old,AS.push_len,AS.set_st_len,AS.next_st',AS.set_push_at,AS.get_set_self,AS.get_set_other,cr,Try.f12,hlen,hcx,f0,f3,f5,hA,hlk,hP,hap,elemA] at hr
 subst hr
 refine ⟨_,rfl,by simp[hlen],by simp[Env.get_set,hlen,f0,f3,f5,hA,hlk,hP,hap,elemA],fun i hi=>?_⟩
 simp only[List.mem_cons,List.not_mem_nil,or_false,not_or] at hi
 simp only[putE,get_set2,hi,false_and,if_false]
theorem rZ (cx:Cx) (env:Env) (σ:AS) (R:AV) (hlen:env.length=40) (hcx:cx.esc= []) (f3:Env.get env 3=R):
  Pc Try.prog how cx [] 40 [2,39] (cr [.r, .r, .r, .r, .l]) env σ (.normal) (σ) (fun env'=>Env.get env' 2=R):=by
 refine pc_of fun res hr=>?_
 simp -implicitDefEqProofs [AS.get_push_at,AS.get_push_old,AS.push_len,AS.set_st_len,AS.next_st',AS.set_push_at,AS.get_set_self,AS.get_set_other,cr,Try.f12,hlen,hcx,f3] at hr
 subst hr
 refine ⟨_,rfl,by simp[hlen],by simp[Env.get_set,hlen,f3],fun i hi=>?_⟩
 simp only[List.mem_cons,List.not_mem_nil,or_false,not_or] at hi
 simp only[putE,get_set2,hi,false_and,if_false]
end
noncomputable def bodyC:Code:=(.seq (cr [.l]) (.seq (cr [.r, .l]) (.seq (.seq (cr [.r, .r, .l, .l]) (.cond (.tmp 8) (.seq (cr [.r, .r, .l, .r, .l, .l]) .ret) .skip)) (.seq (.seq (cr [.r, .r, .r, .l, .l]) (cr [.r, .r, .r, .l, .r])) (.seq (cr [.r, .r, .r, .r, .l]) .ret)))))
theorem body:Try.f12.body=some bodyC:=by kernel_rfl
def J (h:Nat) (σ0:AS) (a mo:Nat) (me n st br bn fr pr nx:Int) (B:AV) (L:List Pr) (k:Nat) (env:Env) (σ:AS):Prop:=
 Env.get env 0= .ptr (.hp a) 0∧Env.get env 14=slV 1 (L.map fun e=>AV.int .i64 e.s)∧(∃R0,Env.get env 3=R0∧Rows h σ [(4,R0,(L.take k).map (fun e=>encVt ⟨e.s,br,bn,e.v⟩))])∧Outside h σ0 σ
def Ex (h:Nat) (σ0:AS) (a mo:Nat) (me n st br bn fr pr nx:Int) (B:AV) (L:List Pr) (e:AExit) (env:Env) (σ:AS):Prop:=False
theorem J_stable {h:Nat} {σ0:AS} {a mo:Nat} {me n st br bn fr pr nx:Int} {B:AV} {L:List Pr}: ∀k env env' σ,env.length=40→env'.length=40→(∀i,i≠17→i≠38→i≠16→Env.get env' i=Env.get env i)→J h σ0 a mo me n st br bn fr pr nx B L k env σ→J h σ0 a mo me n st br bn fr pr nx B L k env' σ:=by
 rintro k env env' σ _ _ hf ⟨j0,j14,⟨R0,r0,hR⟩,ho⟩
 exact ⟨(hf 0 (by decide) (by decide) (by decide)).trans j0,(hf 14 (by decide) (by decide) (by decide)).trans j14,⟨R0,(hf 3 (by decide) (by decide) (by decide)).trans r0,hR⟩,ho⟩
noncomputable def oT:Oper:=(opsOf (cr [.r, .r, .r, .l, .r, .i, .i, .l])).headD default
noncomputable def oI:List Oper:=opsOf (cr [.r, .r, .r, .l, .r, .i, .i, .r, .r, .r])
theorem loop_eq:(cr [.r, .r, .r, .l, .r])= .block 0 (.loop (.seq (.region 5 #[oT] false) (.seq (.cond (.tmp 17) .skip (.exit 0)) (.seq (.block 1 (.seq (cr [.r, .r, .r, .l, .r, .i, .i, .r, .r, .l, .i, .l]) (cr [.r, .r, .r, .l, .r, .i, .i, .r, .r, .l, .i, .r]))) (.region 8 #[oI.headD default,(oI.drop 1).headD default] false))))):=by kernel_rfl
theorem step (cx:Cx) (hcx:cx.esc= []) (hro: ∀k,cx.ro=some k→k≤cx.h) (σ0:AS) (a mo:Nat) (me n st br bn fr pr nx:Int) (B:AV) (L:List Pr) (hA:σ0.hp[a]?=some (.cells [.int .i64 me, .int .i64 n, .int .i64 st, .int .u64 br, .int .i64 bn, .int .i64 fr, .int .u8 pr,B, .map (.hp mo), .int .i64 nx])) (hO:σ0.hp[mo]?=some (.map (L.map entP))) (hP: ∀e∈L,σ0.hp[e.i]?=some (.cells [.str e.v, .int .u8 e.m])) (hasc:L.Pairwise fun a b=>a.s<b.s) (hLl:L.length≤1000):
  ∀k env σ,k<L.length→env.length=40→Env.get env 16= .int .i64 (k:Int)→Env.get env 15= .int .i64 ((L.length:Nat):Int)→J cx.h σ0 a mo me n st br bn fr pr nx B L k env σ→ ∃e env' σ',execW Try.prog cx [] (callW Try.prog how) (.block 1 (.seq (cr [.r, .r, .r, .l, .r, .i, .i, .r, .r, .l, .i, .l]) (cr [.r, .r, .r, .l, .r, .i, .i, .r, .r, .l, .i, .r]))) (env,σ)=some (e,(env',σ'))∧
   ((e= .normal∧env'.length=40∧Env.get env' 16= .int .i64 (k:Int)∧Env.get env' 15= .int .i64 ((L.length:Nat):Int)∧J cx.h σ0 a mo me n st br bn fr pr nx B L (k+1) env' σ')∨(e≠ .normal∧Ex cx.h σ0 a mo me n st br bn fr pr nx B L e env' σ')):=by
 rintro k env σ hk hlen f16 f15 ⟨f0,f14,⟨R0,f3,hR⟩,ho⟩
 obtain ⟨pp,hia,hpa⟩:=(rdK σ L).2 k (.int .i64 L[k].s) (get_el hk)
 have hA1:σ.get (.hp a)=some (.cells [.int .i64 me, .int .i64 n, .int .i64 st, .int .u64 br, .int .i64 bn, .int .i64 fr, .int .u8 pr,B, .map (.hp mo), .int .i64 nx]):=by show σ.hp[a]?=_; rw[ho.1]; exact hA
 have hO1:σ.get (.hp mo)=some (.map (L.map entP)):=by show σ.hp[mo]?=_; rw[ho.1]; exact hO
 have hP1:σ.get (.hp L[k].i)=some (.cells [.str L[k].v, .int .u8 L[k].m]):=by show σ.hp[_]?=_; rw[ho.1]; exact hP _ (List.getElem_mem hk)
 have hlk:=lookup_p σ mo L L[k].s hO1
 rw[find_asc hasc (List.getElem_mem hk)] at hlk
 obtain ⟨env1,x1a,x1b,x1c,x1d⟩:=rE cx env σ k _ pp (L[k].s) hlen hcx f14 f16 hia hpa
 have f0:=(x1d 0 (by decide)).trans f0
 have f3:=(x1d 3 (by decide)).trans f3
 have f14:=(x1d 14 (by decide)).trans f14
 have f15:=(x1d 15 (by decide)).trans f15
 have f16:=(x1d 16 (by decide)).trans f16
 have f5:=x1c
 obtain ⟨R2,τ2,y2a,y2b,y2c,y2d,y2e⟩:=append_one (cx:=cx) (x:=encVt ⟨L[k].s,br,bn,L[k].v⟩) (j:=0) appV hR rfl (by rw[List.length_map,List.length_take]; omega) (by decide) hro ho.2.2
 obtain ⟨env2,x2a,x2b,x2c,x2d⟩:=rF cx env1 σ a mo me n st br bn fr pr nx B (L[k].s) (L[k].m) (L[k].i) (L[k].v) _ R2 τ2 x1b hcx f0 f3 f5 hA1 hlk hP1 y2a
 have f0:=(x2d 0 (by decide)).trans f0
 have f5:=(x2d 5 (by decide)).trans f5
 have f14:=(x2d 14 (by decide)).trans f14
 have f15:=(x2d 15 (by decide)).trans f15
 have f16:=(x2d 16 (by decide)).trans f16
 have f3:=x2c
 have hR:=y2c
 have ho:=y2e _ ho
 exact ⟨.normal,env2,_,(execW_block_of (execW_seq_of x1a x2a)), .inl ⟨rfl,x2b,f16,f15,f0,f14,⟨_,f3,(by rw[List.take_succ_eq_append_getElem hk,List.map_append]; exact hR)⟩,ho⟩⟩
theorem loop (cx:Cx) (hcx:cx.esc= []) (hro: ∀k,cx.ro=some k→k≤cx.h) (σ0:AS) (a mo:Nat) (me n st br bn fr pr nx:Int) (B:AV) (L:List Pr) (hA:σ0.hp[a]?=some (.cells [.int .i64 me, .int .i64 n, .int .i64 st, .int .u64 br, .int .i64 bn, .int .i64 fr, .int .u8 pr,B, .map (.hp mo), .int .i64 nx])) (hO:σ0.hp[mo]?=some (.map (L.map entP))) (hP: ∀e∈L,σ0.hp[e.i]?=some (.cells [.str e.v, .int .u8 e.m])) (hasc:L.Pairwise fun a b=>a.s<b.s) (hLl:L.length≤1000) (hnn:L.length≤9223372036854775807) {env:Env} {σ:AS} (hl:env.length=40) (h1:Env.get env 16= .int .i64 0) (h2:Env.get env 15= .int .i64 ((L.length:Nat):Int)) (h0:J cx.h σ0 a mo me n st br bn fr pr nx B L 0 env σ):
  ∃e env' σ',execW Try.prog cx [] (callW Try.prog how) (cr [.r, .r, .r, .l, .r]) (env,σ)=some (e,(env',σ'))∧((e= .normal∧((env'.length=40∧J cx.h σ0 a mo me n st br bn fr pr nx B L (L.length) env' σ')∨Ex cx.h σ0 a mo me n st br bn fr pr nx B L (.exit 0) env' σ'))∨(e≠ .normal∧e≠ .exit 0∧Ex cx.h σ0 a mo me n st br bn fr pr nx B L e env' σ')):=by
 rw[loop_eq]
 exact range_std (Ex:=Ex cx.h σ0 a mo me n st br bn fr pr nx B L) (N:=40) (tc:=17) (ti:=16) (tl:=15) (tx:=38) (ty1:=3) (ty2:=3) (ty3:=3) (ty4:=3) ⟨by kernel_rfl,by kernel_rfl,by kernel_rfl⟩ ⟨by kernel_rfl,by kernel_rfl,by kernel_rfl⟩ ⟨by kernel_rfl,by kernel_rfl,by kernel_rfl⟩ (by decide) hnn J_stable (step cx hcx hro σ0 a mo me n st br bn fr pr nx B L hA hO hP hasc hLl) hl h1 h2 h0
def opV (p:Lv):List AV:=if p.st=2 then p.op.map (fun e=>encVt ⟨e.1,p.br,p.bn,e.2.1⟩) else []
theorem ok (hp s:List AObj) (a:Nat) (me n:Int) (p:Lv) (F:List Nat) (h:StL hp a me n p F) (hasc:p.op.Pairwise fun a b=>a.1<b.1) (hrg: ∀e∈p.op,0≤e.1∧e.1≤1000) (hpl:p.op.length≤1000):
  ∃hp',callW Try.prog how 12 [.ptr (.hp a) 0] ⟨hp,s⟩ none=some (slV 4 (opV p),⟨hp',s⟩)∧StL hp' a me n p F∧Kp hp hp' []:=by
 let cx:Cx:={h:=s.length,ro:=none,esc:= []}
 have hcx:cx.esc= []:=rfl
 have hro: ∀k,cx.ro=some k→k≤cx.h:=fun k hk=>by cases hk
 obtain ⟨env,henv⟩: ∃e,e=frameA Try.f12 [.ptr (.hp a) 0]:=⟨_,rfl⟩
 have hlen:env.length=40:=by rw[henv]; rfl
 have f0:Env.get env 0= .ptr (.hp a) 0:=by rw[henv]; rfl
 have ho:Outside s.length (AS.mk hp s) (AS.mk hp s):=Outside.refl (Nat.le_refl _)
 obtain ⟨B0,O0,hA0⟩:=h.at_
 obtain ⟨env1,x1a,x1b,x1c,x1d⟩:=rA cx env (AS.mk hp s) hlen hcx
 have f0:=(x1d 0 (by decide)).trans f0
 have f2:=x1c
 obtain ⟨env2,x2a,x2b,x2c,x2d⟩:=rB cx env1 (AS.mk hp s) x1b hcx
 have f0:=(x2d 0 (by decide)).trans f0
 have f2:=(x2d 2 (by decide)).trans f2
 have f3:=x2c
 have k1:=state_c hp s none a me n p.st p.br p.bn p.fr p.pr p.nx B0 O0 (fun k hk=>by cases hk) (fun _=>hA0)
 obtain ⟨env3,x3a,x3b,x3c,x3d⟩:=r2 cx env2 (AS.mk hp s) a me n p.st p.br p.bn p.fr p.pr p.nx B0 O0 hp s x2b hcx f0 rfl k1
 have f0:=(x3d 0 (by decide)).trans f0
 have f2:=(x3d 2 (by decide)).trans f2
 have f3:=(x3d 3 (by decide)).trans f3
 have f8:=x3c
 have ev1:=ev_tmp f8
 by_cases q:p.st=2
 case neg=>
  rw[decide_eq_false q] at ev1
  obtain ⟨env4,x4a,x4b,x4c,x4d⟩:=r3 cx env3 (AS.mk hp s) x3b hcx
  have f0:=(x4d 0 (by decide)).trans f0
  have f3:=(x4d 3 (by decide)).trans f3
  have f8:=(x4d 8 (by decide)).trans f8
  have f2:=x4c
  have e1:slV 4 (opV p)= .nils:=by unfold opV; rw[if_neg q]; rfl
  rw[e1]
  exact ⟨hp,call_of (fl:={}) (fn:=Try.f12) (c:=bodyC) (env:=env) (e:=(.ret,(env4,AS.mk hp s))) rfl Try.func12 body henv (by unfold bodyC; exact (execW_seq_of x1a (execW_seq_of x2a (execW_seq_ret (execW_seq_of x3a (execW_cond_t ev1 (execW_seq_of x4a (by rfl)))))))) ((fin_tmp (k:=2) (w:= .nils) (.inl rfl) rfl rfl f2 (by simp[AV.back]) (by simp[AV.inb])).trans (by simp)),h,Kp.refl _ _⟩
 rw[decide_eq_true q] at ev1
 rcases h with ⟨rfl,_,_⟩ | ⟨hst0,mb,mo,L,h,rfl⟩
 ·exact absurd q (by decide)
 have hasc':L.Pairwise fun a b=>a.s<b.s:=by rw[h.op,List.pairwise_map] at hasc; exact hasc
 have hrg': ∀e∈L,0≤e.s∧e.s≤1000:=fun e he=>hrg (tripP e) (by rw[h.op]; exact List.mem_map_of_mem he)
 have hLl:L.length≤1000:=by rw[h.op,List.length_map] at hpl; exact hpl
 have k2:=keys_c hp s mo
 obtain ⟨hp2,hp2e⟩: ∃x,x=hp++ [AObj.cells [.map (.hp mo)]]:=⟨_,rfl⟩
 rw[←hp2e] at k2
 have hk:Kp hp hp2 []:=by rw[hp2e]; exact Kp.app _ _ _
 have h2:=h.keep hk fun i _=>by simp
 have k3:=sort_c hp2 s mo hp.length L hasc' hrg' hLl (by rw[hp2e]; simp) h2.oO none
 have hl:=(rdK ⟨hp2,s⟩ L).1
 rw[List.length_map] at hl
 obtain ⟨env4,x4a,x4b,x4c,x4d⟩:=r4 cx env3 (AS.mk hp s) a mo me n p.st p.br p.bn p.fr p.pr p.nx _ _ L.length hp2 hp s x3b hcx f0 rfl rfl h.oA k2 k3 hl
 have f0:=(x4d 0 (by decide)).trans f0
 have f2:=(x4d 2 (by decide)).trans f2
 have f3:=(x4d 3 (by decide)).trans f3
 have f8:=(x4d 8 (by decide)).trans f8
 have f14:=x4c.1
 have f15:=x4c.2.1
 have f16:=x4c.2.2
 have ho:Outside s.length (AS.mk hp2 s) (AS.mk hp2 s):=Outside.refl (Nat.le_refl _)
 obtain ⟨e5,env5,σ5,x5a,x5p⟩:=loop cx hcx hro ⟨hp2,s⟩ a mo me n p.st p.br p.bn p.fr p.pr p.nx _ L h2.oA h2.oO h2.oP hasc' hLl (by omega) (σ:=AS.mk hp2 s) x4b f16 f15 (⟨f0,f14,⟨.nils,f3,Rows0⟩,ho⟩)
 rcases x5p with ⟨rfl,⟨x5b,f0,f14,⟨R0,f3,hR⟩,ho⟩ | x5p⟩ | ⟨x5q,x5r,x5p⟩
 ·skip
  rw[List.take_length] at hR
  obtain ⟨env6,x6a,x6b,x6c,x6d⟩:=rZ cx env5 σ5 R0 x5b hcx f3
  have f0:=(x6d 0 (by decide)).trans f0
  have f3:=(x6d 3 (by decide)).trans f3
  have f14:=(x6d 14 (by decide)).trans f14
  have f2:=x6c
  have e1:opV p=L.map (fun e=>encVt ⟨e.s,p.br,p.bn,e.v⟩):=by unfold opV; rw[if_pos q,h.op,List.map_map]; rfl
  rw[e1]
  exact ⟨hp2,call_of (fl:={}) (fn:=Try.f12) (c:=bodyC) (env:=env) (e:=(.ret,(env6,σ5))) rfl Try.func12 body henv (by unfold bodyC; exact (execW_seq_of x1a (execW_seq_of x2a (execW_seq_of (execW_seq_of x3a (execW_cond_f ev1 (by rfl))) (execW_seq_of (execW_seq_of x4a x5a) (execW_seq_of x6a (by rfl))))))) ((fin_tmp (k:=2) (w:=slV 4 (L.map (fun e=>encVt ⟨e.s,p.br,p.bn,e.v⟩))) (.inl rfl) rfl rfl f2 (by exact (hR.1 _ (List.mem_singleton_self _)).back) (by exact slV_inb _)).trans (congrArg (fun x=>some (_,x)) (outside_st ho))), .inr ⟨hst0,mb,mo,L,h2,rfl⟩,hk⟩
 ·cases x5p
 ·cases x5p
end LOpen
