/- Walk 9. -/

import Derived.Test.YtidfkjpcpgeilaaF8
open Go Go.Abs Go.Proofs
set_option maxRecDepth 100000
set_option maxHeartbeats 4000000
set_option linter.unusedSimpArgs false
set_option linter.unusedVariables false
open Ldr
theorem lookup_best2 (σ:AS) (mb:Nat) (best:List (Int×Vt)) (slot:Int) (hm:σ.get (.hp mb)=some (.map (best.map (ment kI encVt)))):lookupA Try.prog σ 75 (.map (.hp mb)) (.int .i64 slot) true=some (.tup [encVt ((mget slot best).getD zeroVt), .bool (mget slot best).isSome]):=by
 unfold lookupA
 have hk: ∀a b,keyEq (kI a) (kI b)=some (decide (b=a)):=fun a b=>by
  unfold kI
  rw[keyEq_i]
  congr 1
  by_cases q:a=b
  ·subst q; simp
  ·rw[decide_eq_false q,decide_eq_false (fun e=>q e.symm)]
 have hf:=findA_m kI encVt hk slot best
 unfold kI at hf
 simp only[Try.underlying75,Try.underlying3,z49,keyFits,if_true,hm]
 rw[show best.map (ment kI encVt)=best.map (ment (fun k=>AV.int .i64 k) encVt) from rfl,hf]
 cases mget slot best <;> rfl
theorem update_best {cx:Cx} (hro:cx.ro=none) (hp s:List AObj) (mb:Nat) (best:List (Int×Vt)) (v:Vt) (hm:hp[mb]?=some (.map (best.map (ment kI encVt)))):
  mapUpdateA Try.prog cx ⟨hp,s⟩ 75 (.map (.hp mb)) (.int .i64 v.s) (encVt v)=some ⟨hp.set mb (.map ((mput v.s v best).map (ment kI encVt))),s⟩:=by
 have hk: ∀a b,keyEq (kI a) (kI b)=some (decide (b=a)):=fun a b=>by
  unfold kI
  rw[keyEq_i]
  congr 1
  by_cases q:a=b
  ·subst q; simp
  ·rw[decide_eq_false q,decide_eq_false (fun e=>q e.symm)]
 have hpu:=putA_m kI encVt hk v.s v best
 unfold kI at hpu
 have hg:(AS.mk hp s).get (.hp mb)=some (.map (best.map (ment kI encVt))):=hm
 have hw:wok cx.ro (.hp mb)=true:=by rw[hro]; rfl
 have hz:fzL cx.ro ⟨hp,s⟩ (encVt v).cells=some ((encVt v).cells,⟨hp,s⟩):=by simp[fzL,encVt,AV.cells]
 have hc:(encVt v).withCells (encVt v).cells=some (encVt v):=rfl
 have hi:(encVt v).inb 0=true:=rfl
 simp only[mapUpdateA,Try.underlying75,Try.underlying3,keyFits,decide_true,if_true,hz,hc,hg,hw,hi,and_self]
 rw[show best.map (ment kI encVt)=best.map (ment (fun k=>AV.int .i64 k) encVt) from rfl,hpu]
 rfl
theorem rdV (σ:AS) (vs:List Vt):Rd Try.prog σ 32 49 (slV 4 (vs.map encVt)) (vs.map encVt):=
 rd_slV (by simp) s49 (by decide) fun c hc=>by
  obtain ⟨v,_,rfl⟩:=List.mem_map.1 hc
  simp[partA,aggA,isAggD,encVt,AV.cells]
theorem get_el {α β:Type} {g:α→β} {l:List α} {k:Nat} (hk:k<l.length):(l.map g)[k]?=some (g l[k]):=by rw[List.getElem?_map,List.getElem?_eq_getElem hk]; rfl
theorem lead_st {hp:List AObj} {a mb mo:Nat} {me n:Int} {p:Lv} (h:LeadIn hp a mb mo me n p.st p.br p.bn p.fr p.pr p.nx p.best) (hab:mb≠a) (hao:mo≠a):
  ∃L,PLd (leadHp hp a mb mo me n p.br p.bn p.fr p.pr p.best) a mb mo me n (leadS p) L∧Kp hp (leadHp hp a mb mo me n p.br p.bn p.fr p.pr p.best) [a,mb,mo]∧ ∀i∈L.map (·.i),hp.length≤i:=by
 have lA:=at_lt2 h.hA
 have lB:=at_lt2 h.hmb
 have lO:=at_lt2 h.hmo
 obtain ⟨hp1,hp1e⟩: ∃x,x=hp.set a (.cells (ldC me n 2 p.br p.bn p.fr p.pr mb mo (nextB p.fr p.best))):=⟨_,rfl⟩
 have l1:hp1.length=hp.length:=by rw[hp1e]; simp
 have hlead:leadHp hp a mb mo me n p.br p.bn p.fr p.pr p.best=hpK hp1 mo p.fr p.best (nextB p.fr p.best - p.fr).toNat:=by rw[hp1e]; rfl
 rw[hlead]
 generalize hcnt:(nextB p.fr p.best - p.fr).toNat=cnt
 refine ⟨(List.range cnt).map fun (j:Nat)=>Pr.mk (p.fr+(j:Int)) (hp1.length+j) ((mget (p.fr+(j:Int)) p.best).getD zeroVt).v 0,?_,⟨by rw[hpK_len]; omega,fun i hi hn=>?_⟩,fun i hi=>?_⟩
 ·exact {
   oA:=by rw[hpK_old (by omega) (fun e=>hao e.symm),hp1e,List.getElem?_set_self lA]; rfl
   oB:=by rw[hpK_old (by omega) h.hd,hp1e,List.getElem?_set_ne (fun e=>hab e.symm)]; exact h.hmb
   oO:=by
    rw[hpK_mo (by omega)]
    simp only[opK,List.map_map]
    rfl
   op:=by
    show rowsB p.best p.fr (nextB p.fr p.best)=_
    unfold rowsB
    rw[hcnt,List.map_map]
    rfl
   oP:=fun e he=>by
    obtain ⟨j,hj,rfl⟩:=List.mem_map.1 he
    rw[List.mem_range] at hj
    unfold hpK
    rw[List.getElem?_append_right (by simp)]
    simp only[List.length_set,Nat.add_sub_cancel_left,obK,List.getElem?_map,List.getElem?_range hj,Option.map_some]
   nd:=by
    have hi:((List.range cnt).map fun (j:Nat)=>Pr.mk (p.fr+(j:Int)) (hp1.length+j) ((mget (p.fr+(j:Int)) p.best).getD zeroVt).v 0).map (·.i)=(List.range cnt).map fun j=>hp1.length+j:=by rw[List.map_map]; rfl
    rw[hi]
    simp only[List.nodup_cons,List.mem_cons,List.mem_map,List.mem_range,not_or,not_exists,not_and]
    refine ⟨⟨h.hd,fun j _=>by omega⟩,fun j _=>by omega,?_⟩
    refine List.Pairwise.map _ (fun a b (hab:a≠b)=>?_) List.nodup_range
    omega
   na:=by
    simp only[List.map_map,List.mem_cons,List.mem_map,List.mem_range,not_or,not_exists,not_and]
    exact ⟨fun e=>hab e.symm,fun e=>hao e.symm,fun j _=>by simp only[Function.comp]; omega⟩}
 ·simp only[List.mem_cons,List.not_mem_nil,or_false,not_or] at hn
  rw[hpK_old (by omega) hn.2.2,hp1e,List.getElem?_set_ne (fun e=>hn.1 e.symm)]
 ·simp only[List.map_map,List.mem_map,List.mem_range] at hi
  obtain ⟨j,_,rfl⟩:=hi
  simp only[Function.comp]
  omega
namespace LProm
noncomputable def cr (p:List Dir):Code:=sub p (bodyOf Try.f10)
section
attribute [local simp] ofV ofCell ofCells seqA_nil seqA_cons seqVK_eq seqEK_eq wantedA yieldedA isVal effA ev evs evps putE optsA optsOk valA fieldAddrA fieldA loadA partA aggA isAggD buildA placesA fillA lay storeA AV.withCells buildSliceA elemsA rowParts fzL promL okE isSrc bytesOk pushA cxOf lenA binA intBinA strBinA unA indexAddrA eqA AVs.inb AV.inb Loc.inb calleeA opsOf sub bodyOf Env.get_set quietA_nil quietA_cons quietK_none quietK_some qstep newA isNew escNew boxOk newLoc flat rowPartsQ quietN quietOp isBS List.takeWhile finishA_eq finK_ret finK_normal retK backK resA oneA AV.back AVs.back execW_seq_eq seqK_normal seqK_ret seqK_exit execW_cond_eq condK_true condK_false execW_block_eq blockK_exit blockK_normal blockK_ret execW_region_eq regK_eq execW_skip execW_exit execW_ret regionA_plain regionA_quiet0 tailK_eq nilCheckA guardOk isConst lookupA keyFits mapUpdateA beqI bneI mixZ_nil mixZ_cons mixKZ_eq tKZ_pre tKZ_eq tK_pre tK_eq vK_eq resv_eq stepZ_0 stepZ_1n stepZ_1s stepZ_2 stepZ_3 stepZ_4 stepZ_5 cutCall newZ tchkL agreeB Op.operands sameO truncM beq_bool beq_int beq_str beq_nilp beq_ptr beq_eptr beq_nils beq_row beq_nilm beq_map beq_agg beq_sl beqs_nil beqs_cons
theorem rA (cx:Cx) (env:Env) (σ:AS) (hp s:List AObj) (rd rn:Int) (hlen:env.length=106) (hcx:cx.esc= []) (f2:Env.get env 2= .agg [.int .u64 rd, .int .i64 rn]) (hσ:σ=⟨hp,s⟩) (hro0:cx.ro=none):
  Pc Try.prog how cx [2000007] 106 [6,8] (cr [.l]) env σ (.normal) (AS.mk hp (s++ [.cells [.int .u64 rd, .int .i64 rn]])) (fun env'=>Env.get env' 6= .ptr (.st s.length) 0∧Env.get env' 8= .bool false):=by
 refine pc_of fun res hr=>?_
 simp -implicitDefEqProofs [AS.get_push_at,AS.get_push_old,AS.push_len,AS.set_st_len,AS.next_st',AS.set_push_at,AS.get_set_self,AS.get_set_other,cr,Try.f10,hlen,hcx,f2,hσ,hro0] at hr
 subst hr
 refine ⟨_,rfl,by simp[hlen],by simp[Env.get_set,hlen,f2,hσ,hro0],fun i hi=>?_⟩
 simp only[List.mem_cons,List.not_mem_nil,or_false,not_or] at hi
 simp only[putE,get_set2,hi,false_and,if_false]
theorem r1 (cx:Cx) (env:Env) (σ:AS) (a:Nat) (me n st br bn fr pr nx:Int) (B O:AV) (rd rn k:Int) (b1 b2:Bool) (i:Nat) (hp s:List AObj) (hlen:env.length=106) (hcx:cx.esc= []) (f0:Env.get env 0= .ptr (.hp a) 0) (f1:Env.get env 1= .int .i64 k) (f6:Env.get env 6= .ptr (.st i) 0) (hσ:σ=⟨hp,s⟩) (hA:(AS.mk hp s).get (.hp a)=some (.cells [.int .i64 me, .int .i64 n, .int .i64 st, .int .u64 br, .int .i64 bn, .int .i64 fr, .int .u8 pr,B,O, .int .i64 nx])) (gi:(AS.mk hp s).get (.st i)=some (.cells [.int .u64 rd, .int .i64 rn])) (k1:callW Try.prog how 16 [.ptr (.hp a) 0] ⟨hp,s⟩ (some s.length)=some (.int .i64 st,⟨hp,s⟩)) (k2:callW Try.prog how 25 [.ptr (.hp a) 0, .int .i64 k] ⟨hp,s⟩ (some s.length)=some (.bool b1,⟨hp,s⟩)) (k3:callW Try.prog how 26 [.int .u8 pr, .int .i64 k] ⟨hp,s⟩ (some s.length)=some (.bool b2,⟨hp,s⟩)):
  Pc Try.prog how cx [2000007] 106 [13,14,15,16,17,18,19,20,21,22,23,24,25,26,27,28,29,30,31,32,33,34,35,36,37] (cr [.r, .l, .l]) env σ (.normal) (AS.mk hp s) (fun env'=>Env.get env' 37= .bool (!(decide (st=1) && (decide (rd=br) && decide (rn=bn)) && b1 && !b2))):=by
 by_cases q1:st=1 <;> by_cases q2:rd=br <;> by_cases q3:rn=bn <;> cases b1 <;> cases b2
 all_goals first | (fail; done) | (
   refine pc_of fun res hr=>?_
   simp -implicitDefEqProofs [-eqA,AS.get_push_at,AS.get_push_old,AS.push_len,AS.set_st_len,AS.next_st',AS.set_push_at,AS.get_set_self,AS.get_set_other,cr,Try.f10,hlen,hcx,f0,f1,f6,hσ,hA,gi,k1,k2,k3,q1,q2,q3,gd27,eqB27,regionA_quietM (tails:= [2000007]) (id:=1) (m:=0) rfl rfl rfl] at hr
   subst hr
   refine ⟨_,rfl,by simp[hlen],by simp[Env.get_set,hlen,f0,f1,f6,hσ,hA,gi,k1,k2,k3,q1,q2,q3,gd27,eqB27,regionA_quietM (tails:= [2000007]) (id:=1) (m:=0) rfl rfl rfl],fun i hi=>?_⟩
   simp only[List.mem_cons,List.not_mem_nil,or_false,not_or] at hi
   simp only[putE,get_set2,hi,false_and,if_false]
  )
theorem r2 (cx:Cx) (env:Env) (σ:AS) (hlen:env.length=106) (hcx:cx.esc= []):
  Pc Try.prog how cx [2000007] 106 [8] (cr [.r, .l, .r, .l, .l]) env σ (.normal) (σ) (fun env'=>Env.get env' 8= .bool false):=by
 refine pc_of fun res hr=>?_
 simp -implicitDefEqProofs [AS.get_push_at,AS.get_push_old,AS.push_len,AS.set_st_len,AS.next_st',AS.set_push_at,AS.get_set_self,AS.get_set_other,cr,Try.f10,hlen,hcx] at hr
 subst hr
 refine ⟨_,rfl,by simp[hlen],by simp[Env.get_set,hlen],fun i hi=>?_⟩
 simp only[List.mem_cons,List.not_mem_nil,or_false,not_or] at hi
 simp only[putE,get_set2,hi,false_and,if_false]
theorem r3 (cx:Cx) (env:Env) (σ:AS) (a:Nat) (me n st br bn fr pr nx:Int) (B O:AV) (k p2:Int) (hp s:List AObj) (hlen:env.length=106) (hcx:cx.esc= []) (f0:Env.get env 0= .ptr (.hp a) 0) (f1:Env.get env 1= .int .i64 k) (hσ:σ=⟨hp,s⟩) (hro0:cx.ro=none) (hA:(AS.mk hp s).get (.hp a)=some (.cells [.int .i64 me, .int .i64 n, .int .i64 st, .int .u64 br, .int .i64 bn, .int .i64 fr, .int .u8 pr,B,O, .int .i64 nx])) (k4:callW Try.prog how 27 [.int .u8 pr, .int .i64 k] ⟨hp,s⟩ none=some (.int .u8 p2,⟨hp,s⟩)):
  Pc Try.prog how cx [2000007] 106 [38,39,40,41,42,43,44,45,46] (cr [.r, .r, .l]) env σ (.normal) (AS.mk (hp.set a (.cells [.int .i64 me, .int .i64 n, .int .i64 st, .int .u64 br, .int .i64 bn, .int .i64 fr, .int .u8 p2,B,O, .int .i64 nx])) s) (fun _=>True):=by
 refine pc_of fun res hr=>?_
 simp -implicitDefEqProofs [AS.get_push_at,AS.get_push_old,AS.push_len,AS.set_st_len,AS.next_st',AS.set_push_at,AS.get_set_self,AS.get_set_other,cr,Try.f10,hlen,hcx,f0,f1,hσ,hro0,hA,k4,AS.set,wok] at hr
 subst hr
 refine ⟨_,rfl,by simp[hlen],by simp[Env.get_set,hlen,f0,f1,hσ,hro0,hA,k4,AS.set,wok],fun i hi=>?_⟩
 simp only[List.mem_cons,List.not_mem_nil,or_false,not_or] at hi
 simp only[putE,get_set2,hi,false_and,if_false]
theorem r4 (cx:Cx) (env:Env) (σ:AS) (X:AV) (n0:Nat) (hlen:env.length=106) (hcx:cx.esc= []) (f3:Env.get env 3=X) (hl:lenA Try.prog σ 32 X=some n0):
  Pc Try.prog how cx [2000007] 106 [47,48,49] (cr [.r, .r, .r, .l, .l]) env σ (.normal) (σ) (fun env'=>Env.get env' 47=X∧Env.get env' 48= .int .i64 (n0:Int)∧Env.get env' 49= .int .i64 0):=by
 refine pc_of fun res hr=>?_
 simp -implicitDefEqProofs [-lenA,AS.get_push_at,AS.get_push_old,AS.push_len,AS.set_st_len,AS.next_st',AS.set_push_at,AS.get_set_self,AS.get_set_other,cr,Try.f10,hlen,hcx,f3,hl] at hr
 subst hr
 refine ⟨_,rfl,by simp[hlen],by simp[Env.get_set,hlen,f3,hl],fun i hi=>?_⟩
 simp only[List.mem_cons,List.not_mem_nil,or_false,not_or] at hi
 simp only[putE,get_set2,hi,false_and,if_false]
theorem rE (cx:Cx) (env:Env) (σ:AS) (k:Nat) (X pp:AV) (v:Vt) (hp s:List AObj) (hlen:env.length=106) (hcx:cx.esc= []) (f47:Env.get env 47=X) (f49:Env.get env 49= .int .i64 (k:Int)) (hσ:σ=⟨hp,s⟩) (hro0:cx.ro=none) (hh:cx.h≤s.length) (hia:indexAddrA Try.prog ⟨hp,s⟩ 32 X (.int .i64 (k:Int))=some pp) (hpa:loadA Try.prog ⟨hp,s⟩ 49 pp=some (.agg [.int .i64 v.s, .int .u64 v.r, .int .i64 v.n, .str v.v])):
  Pc Try.prog how cx [2000007] 106 [10,51,52] (cr [.r, .r, .r, .l, .r, .i, .i, .r, .r, .l, .i, .l]) env σ (.normal) (AS.mk hp (s++ [.cells [.int .i64 v.s, .int .u64 v.r, .int .i64 v.n, .str v.v]])) (fun env'=>Env.get env' 10= .ptr (.st s.length) 0):=by
 refine pc_of fun res hr=>?_
 simp -implicitDefEqProofs [-indexAddrA,-loadA,AS.get_push_at,AS.get_push_old,AS.push_len,AS.set_st_len,AS.next_st',AS.set_push_at,AS.get_set_self,AS.get_set_other,cr,Try.f10,hlen,hcx,f47,f49,hσ,hro0,hh,hia,hpa,wok] at hr
 subst hr
 refine ⟨_,rfl,by simp[hlen],by simp[Env.get_set,hlen,f47,f49,hσ,hro0,hh,hia,hpa,wok],fun i hi=>?_⟩
 simp only[List.mem_cons,List.not_mem_nil,or_false,not_or] at hi
 simp only[putE,get_set2,hi,false_and,if_false]
noncomputable def mx_q:List Oper:=opsOf (cr [.r, .r, .r, .l, .r, .i, .i, .r, .r, .l, .i, .r, .l])
def mx_plan:List (Nat×List Nat):= [(0,[]),(0,[]),(0,[]),(1,[]),(0,[]),(1,[]),(1,[]),(0,[]),(0,[]),(0,[]),(3,[1,1]),(4,[0]),(0,[])]
theorem mx_reg:(cr [.r, .r, .r, .l, .r, .i, .i, .r, .r, .l, .i, .r, .l])= .region 7 mx_q.toArray true:=by kernel_rfl
theorem mx_ok (h:Nat) (ro:Option Nat):planOkZ Try.prog (Cx.mk h ro []) mx_q mx_plan=true:=by kernel_rfl
theorem mx_lt:anyLT Try.prog mx_q=false:=by kernel_rfl
theorem mx_room (h:Nat) (ro:Option Nat):cntM Try.prog mx_q (newSt (Cx.mk h ro [])) 0 mx_q.length=1:=by kernel_rfl
theorem mx (h:Nat) (ro:Option Nat) (hp s:List AObj) (env:Env) (a mb:Nat) (me n st br bn fr pr nx:Int) (O:AV) (v w:Vt) (ok:Bool) (i:Nat) (hlen:env.length=106) (f0:Env.get env 0= .ptr (.hp a) 0) (f10:Env.get env 10= .ptr (.st i) 0) (hro0:ro=none) (hA: ∀s,(AS.mk hp s).get (.hp a)=some (.cells [.int .i64 me, .int .i64 n, .int .i64 st, .int .u64 br, .int .i64 bn, .int .i64 fr, .int .u8 pr, .map (.hp mb),O, .int .i64 nx])) (gI: ∀t,(AS.mk hp (s++t)).get (.st i)=some (.cells [.int .i64 v.s, .int .u64 v.r, .int .i64 v.n, .str v.v])) (gI0:(AS.mk hp s).get (.st i)=some (.cells [.int .i64 v.s, .int .u64 v.r, .int .i64 v.n, .str v.v])) (hlk: ∀s,lookupA Try.prog ⟨hp,s⟩ 75 (.map (.hp mb)) (.int .i64 v.s) true=some (.tup [.agg [.int .i64 w.s, .int .u64 w.r, .int .i64 w.n, .str w.v], .bool ok])):
  Pc Try.prog how (Cx.mk h ro []) [2000007] 106 [11,12,53,54,55,56,57,58,59,60,61,62] (cr [.r, .r, .r, .l, .r, .i, .i, .r, .r, .l, .i, .r, .l]) env ⟨hp,s⟩ .normal ⟨hp,s++ [.cells [.int .i64 w.s, .int .u64 w.r, .int .i64 w.n, .str w.v]]⟩ (fun env'=>Env.get env' 11= .ptr (.st s.length) 0∧Env.get env' 12= .bool ok):=by
 refine pc_of fun res hr=>?_
 rw[mx_reg,execW_region_eq] at hr
 rw[show (mx_q.toArray).toList=mx_q from rfl,regionA_mix rfl rfl] at hr
 rw[mixA_planZ1 (mx_ok h ro) mx_lt,mx_room h ro] at hr
 simp -implicitDefEqProofs [mx_plan,-lookupA,mx_q,cr,Try.f10,hlen,f0,f10,hro0,hA,gI,gI0,hlk,noHp,newHp,isNew,escNew,List.all_cons,List.all_nil,wok] at hr
 subst hr
 refine ⟨_,rfl,by simp[hlen],by simp[Env.get_set,hlen,f0,f10,hro0,hA,gI,gI0,hlk,noHp,newHp,isNew,escNew,List.all_cons,List.all_nil,wok],fun i hi=>?_⟩
 simp only[List.mem_cons,List.not_mem_nil,or_false,not_or] at hi
 simp only[putE,get_set2,hi,false_and,if_false]
theorem r8 (cx:Cx) (env:Env) (σ:AS) (a:Nat) (me n st br bn fr pr nx:Int) (B O:AV) (v w:Vt) (ok b3:Bool) (i j:Nat) (hp s:List AObj) (hlen:env.length=106) (hcx:cx.esc= []) (f0:Env.get env 0= .ptr (.hp a) 0) (f10:Env.get env 10= .ptr (.st i) 0) (f11:Env.get env 11= .ptr (.st j) 0) (f12:Env.get env 12= .bool ok) (hσ:σ=⟨hp,s⟩) (hA:(AS.mk hp s).get (.hp a)=some (.cells [.int .i64 me, .int .i64 n, .int .i64 st, .int .u64 br, .int .i64 bn, .int .i64 fr, .int .u8 pr,B,O, .int .i64 nx])) (gi:(AS.mk hp s).get (.st i)=some (.cells [.int .i64 v.s, .int .u64 v.r, .int .i64 v.n, .str v.v])) (gj:(AS.mk hp s).get (.st j)=some (.cells [.int .i64 w.s, .int .u64 w.r, .int .i64 w.n, .str w.v])) (k5:callW Try.prog how 28 [.agg [.int .u64 w.r, .int .i64 w.n], .agg [.int .u64 v.r, .int .i64 v.n]] ⟨hp,s⟩ (some s.length)=some (.bool b3,⟨hp,s⟩)):
  Pc Try.prog how cx [2000007] 106 [63,64,65,66,67,68,69,70,71,72,73,74,75,76,77,78,79,80,81,82,83,84,85] (cr [.r, .r, .r, .l, .r, .i, .i, .r, .r, .l, .i, .r, .r, .l]) env σ (.normal) (AS.mk hp s) (fun env'=>Env.get env' 85= .bool (decide (fr≤v.s) && (decide (v.s<400) && (!ok || b3)))):=by
 by_cases q1:fr≤v.s <;> by_cases q2:v.s<400 <;> cases ok <;> cases b3
 all_goals first | (fail; done) | (
   refine pc_of fun res hr=>?_
   simp -implicitDefEqProofs [AS.get_push_at,AS.get_push_old,AS.push_len,AS.set_st_len,AS.next_st',AS.set_push_at,AS.get_set_self,AS.get_set_other,cr,Try.f10,hlen,hcx,f0,f10,f11,f12,hσ,hA,gi,gj,k5,q1,q2,regionA_quietM (tails:= [2000007]) (id:=8) (m:=0) rfl rfl rfl] at hr
   subst hr
   refine ⟨_,rfl,by simp[hlen],by simp[Env.get_set,hlen,f0,f10,f11,f12,hσ,hA,gi,gj,k5,q1,q2,regionA_quietM (tails:= [2000007]) (id:=8) (m:=0) rfl rfl rfl],fun i hi=>?_⟩
   simp only[List.mem_cons,List.not_mem_nil,or_false,not_or] at hi
   simp only[putE,get_set2,hi,false_and,if_false]
  )
theorem r9 (cx:Cx) (env:Env) (σ:AS) (a mb:Nat) (me n st br bn fr pr nx:Int) (O:AV) (v:Vt) (i:Nat) (σ':AS) (hp s:List AObj) (hlen:env.length=106) (hcx:cx.esc= []) (f0:Env.get env 0= .ptr (.hp a) 0) (f10:Env.get env 10= .ptr (.st i) 0) (hσ:σ=⟨hp,s⟩) (hA:(AS.mk hp s).get (.hp a)=some (.cells [.int .i64 me, .int .i64 n, .int .i64 st, .int .u64 br, .int .i64 bn, .int .i64 fr, .int .u8 pr, .map (.hp mb),O, .int .i64 nx])) (gi:(AS.mk hp s).get (.st i)=some (.cells [.int .i64 v.s, .int .u64 v.r, .int .i64 v.n, .str v.v])) (hmu:mapUpdateA Try.prog cx ⟨hp,s⟩ 75 (.map (.hp mb)) (.int .i64 v.s) (.agg [.int .i64 v.s, .int .u64 v.r, .int .i64 v.n, .str v.v])=some σ'):
  Pc Try.prog how cx [2000007] 106 [86,87,88,89,90,91,92] (cr [.r, .r, .r, .l, .r, .i, .i, .r, .r, .l, .i, .r, .r, .r, .l]) env σ (.normal) (σ') (fun _=>True):=by
 refine pc_of fun res hr=>?_
 simp -implicitDefEqProofs [-mapUpdateA,AS.get_push_at,AS.get_push_old,AS.push_len,AS.set_st_len,AS.next_st',AS.set_push_at,AS.get_set_self,AS.get_set_other,cr,Try.f10,hlen,hcx,f0,f10,hσ,hA,gi,hmu,regionA_quietM (tails:= [2000007]) (id:=9) (m:=0) rfl rfl rfl] at hr
 subst hr
 refine ⟨_,rfl,by simp[hlen],by simp[Env.get_set,hlen,f0,f10,hσ,hA,gi,hmu,regionA_quietM (tails:= [2000007]) (id:=9) (m:=0) rfl rfl rfl],fun i hi=>?_⟩
 simp only[List.mem_cons,List.not_mem_nil,or_false,not_or] at hi
 simp only[putE,get_set2,hi,false_and,if_false]
theorem r11 (cx:Cx) (env:Env) (σ:AS) (a:Nat) (me n st br bn fr pr nx:Int) (B O:AV) (w:Bool) (hp s:List AObj) (hlen:env.length=106) (hcx:cx.esc= []) (f0:Env.get env 0= .ptr (.hp a) 0) (hσ:σ=⟨hp,s⟩) (hA:(AS.mk hp s).get (.hp a)=some (.cells [.int .i64 me, .int .i64 n, .int .i64 st, .int .u64 br, .int .i64 bn, .int .i64 fr, .int .u8 pr,B,O, .int .i64 nx])) (k6:callW Try.prog how 29 [.int .u8 pr, .int .i64 n] ⟨hp,s⟩ (some s.length)=some (.bool w,⟨hp,s⟩)):
  Pc Try.prog how cx [2000007] 106 [94,95,96,97,98,99,100,101,102,103] (cr [.r, .r, .r, .r, .l, .l]) env σ (.normal) (AS.mk hp s) (fun env'=>Env.get env' 103= .bool (!w)):=by
 refine pc_of fun res hr=>?_
 simp -implicitDefEqProofs [AS.get_push_at,AS.get_push_old,AS.push_len,AS.set_st_len,AS.next_st',AS.set_push_at,AS.get_set_self,AS.get_set_other,cr,Try.f10,hlen,hcx,f0,hσ,hA,k6,regionA_quietM (tails:= [2000007]) (id:=11) (m:=0) rfl rfl rfl] at hr
 subst hr
 refine ⟨_,rfl,by simp[hlen],by simp[Env.get_set,hlen,f0,hσ,hA,k6,regionA_quietM (tails:= [2000007]) (id:=11) (m:=0) rfl rfl rfl],fun i hi=>?_⟩
 simp only[List.mem_cons,List.not_mem_nil,or_false,not_or] at hi
 simp only[putE,get_set2,hi,false_and,if_false]
theorem r12 (cx:Cx) (env:Env) (σ:AS) (hlen:env.length=106) (hcx:cx.esc= []):
  Pc Try.prog how cx [2000007] 106 [8] (cr [.r, .r, .r, .r, .l, .r, .l, .l]) env σ (.normal) (σ) (fun env'=>Env.get env' 8= .bool false):=by
 refine pc_of fun res hr=>?_
 simp -implicitDefEqProofs [AS.get_push_at,AS.get_push_old,AS.push_len,AS.set_st_len,AS.next_st',AS.set_push_at,AS.get_set_self,AS.get_set_other,cr,Try.f10,hlen,hcx] at hr
 subst hr
 refine ⟨_,rfl,by simp[hlen],by simp[Env.get_set,hlen],fun i hi=>?_⟩
 simp only[List.mem_cons,List.not_mem_nil,or_false,not_or] at hi
 simp only[putE,get_set2,hi,false_and,if_false]
theorem r13 (cx:Cx) (env:Env) (σ:AS) (a:Nat) (hp2:List AObj) (hp s:List AObj) (hlen:env.length=106) (hcx:cx.esc= []) (f0:Env.get env 0= .ptr (.hp a) 0) (hσ:σ=⟨hp,s⟩) (hro0:cx.ro=none) (k7:callW Try.prog how 30 [.ptr (.hp a) 0] ⟨hp,s⟩ none=some (.tup [],⟨hp2,s⟩)):
  Pc Try.prog how cx [2000007] 106 [104,105] (cr [.r, .r, .r, .r, .r, .l]) env σ (.normal) (AS.mk hp2 s) (fun _=>True):=by
 refine pc_of fun res hr=>?_
 simp -implicitDefEqProofs [AS.get_push_at,AS.get_push_old,AS.push_len,AS.set_st_len,AS.next_st',AS.set_push_at,AS.get_set_self,AS.get_set_other,cr,Try.f10,hlen,hcx,f0,hσ,hro0,k7] at hr
 subst hr
 refine ⟨_,rfl,by simp[hlen],by simp[Env.get_set,hlen,f0,hσ,hro0,k7],fun i hi=>?_⟩
 simp only[List.mem_cons,List.not_mem_nil,or_false,not_or] at hi
 simp only[putE,get_set2,hi,false_and,if_false]
theorem r14 (cx:Cx) (env:Env) (σ:AS) (hlen:env.length=106) (hcx:cx.esc= []):
  Pc Try.prog how cx [2000007] 106 [8] (cr [.r, .r, .r, .r, .r, .r, .l]) env σ (.normal) (σ) (fun env'=>Env.get env' 8= .bool true):=by
 refine pc_of fun res hr=>?_
 simp -implicitDefEqProofs [AS.get_push_at,AS.get_push_old,AS.push_len,AS.set_st_len,AS.next_st',AS.set_push_at,AS.get_set_self,AS.get_set_other,cr,Try.f10,hlen,hcx] at hr
 subst hr
 refine ⟨_,rfl,by simp[hlen],by simp[Env.get_set,hlen],fun i hi=>?_⟩
 simp only[List.mem_cons,List.not_mem_nil,or_false,not_or] at hi
 simp only[putE,get_set2,hi,false_and,if_false]
end
noncomputable def bodyC:Code:=(.seq (cr [.l]) (.seq (.seq (cr [.r, .l, .l]) (.cond (.tmp 37) (.seq (cr [.r, .l, .r, .l, .l]) .ret) .skip)) (.seq (cr [.r, .r, .l]) (.seq (.seq (cr [.r, .r, .r, .l, .l]) (cr [.r, .r, .r, .l, .r])) (.seq (.seq (cr [.r, .r, .r, .r, .l, .l]) (.cond (.tmp 103) (.seq (cr [.r, .r, .r, .r, .l, .r, .l, .l]) .ret) .skip)) (.seq (cr [.r, .r, .r, .r, .r, .l]) (.seq (cr [.r, .r, .r, .r, .r, .r, .l]) .ret)))))))
theorem body:Try.f10.body=some bodyC:=by kernel_rfl
def J (h:Nat) (σ0:AS) (a mb:Nat) (me n st br bn fr pr nx:Int) (O:AV) (hp:List AObj) (best:List (Int×Vt)) (vs:List Vt) (k:Nat) (env:Env) (σ:AS):Prop:=
 Env.get env 0= .ptr (.hp a) 0∧Env.get env 47=slV 4 (vs.map encVt)∧σ.st.take h=σ0.st.take h∧h≤σ.st.length∧σ.hp=hp.set mb (.map (((vs.take k).foldl (stepB fr) best).map (ment kI encVt)))
def Ex (h:Nat) (σ0:AS) (a mb:Nat) (me n st br bn fr pr nx:Int) (O:AV) (hp:List AObj) (best:List (Int×Vt)) (vs:List Vt) (e:AExit) (env:Env) (σ:AS):Prop:=False
theorem J_stable {h:Nat} {σ0:AS} {a mb:Nat} {me n st br bn fr pr nx:Int} {O:AV} {hp:List AObj} {best:List (Int×Vt)} {vs:List Vt}: ∀k env env' σ,env.length=106→env'.length=106→(∀i,i≠50→i≠93→i≠49→Env.get env' i=Env.get env i)→J h σ0 a mb me n st br bn fr pr nx O hp best vs k env σ→J h σ0 a mb me n st br bn fr pr nx O hp best vs k env' σ:=by
 rintro k env env' σ _ _ hf ⟨j0,j47,ho⟩
 exact ⟨(hf 0 (by decide) (by decide) (by decide)).trans j0,(hf 47 (by decide) (by decide) (by decide)).trans j47,ho⟩
noncomputable def oT:Oper:=(opsOf (cr [.r, .r, .r, .l, .r, .i, .i, .l])).headD default
noncomputable def oI:List Oper:=opsOf (cr [.r, .r, .r, .l, .r, .i, .i, .r, .r, .r])
theorem loop_eq:(cr [.r, .r, .r, .l, .r])= .block 0 (.loop (.seq (.region 5 #[oT] false) (.seq (.cond (.tmp 50) .skip (.exit 0)) (.seq (.block 1 (.seq (cr [.r, .r, .r, .l, .r, .i, .i, .r, .r, .l, .i, .l]) (.seq (cr [.r, .r, .r, .l, .r, .i, .i, .r, .r, .l, .i, .r, .l]) (.seq (cr [.r, .r, .r, .l, .r, .i, .i, .r, .r, .l, .i, .r, .r, .l]) (.cond (.tmp 85) (cr [.r, .r, .r, .l, .r, .i, .i, .r, .r, .l, .i, .r, .r, .r, .l]) .skip))))) (.region 10 #[oI.headD default,(oI.drop 1).headD default] false))))):=by kernel_rfl
theorem step (cx:Cx) (hcx:cx.esc= []) (hro: ∀k,cx.ro=some k→k≤cx.h) (σ0:AS) (a mb:Nat) (me n st br bn fr pr nx:Int) (O:AV) (hp:List AObj) (best:List (Int×Vt)) (vs:List Vt) (hro2:cx.ro=none) (hA:hp[a]?=some (.cells [.int .i64 me, .int .i64 n, .int .i64 st, .int .u64 br, .int .i64 bn, .int .i64 fr, .int .u8 pr, .map (.hp mb),O, .int .i64 nx])) (hmb: ∃ob,hp[mb]?=some ob) (hab:a≠mb):
  ∀k env σ,k<vs.length→env.length=106→Env.get env 49= .int .i64 (k:Int)→Env.get env 48= .int .i64 ((vs.length:Nat):Int)→J cx.h σ0 a mb me n st br bn fr pr nx O hp best vs k env σ→ ∃e env' σ',execW Try.prog cx [2000007] (callW Try.prog how) (.block 1 (.seq (cr [.r, .r, .r, .l, .r, .i, .i, .r, .r, .l, .i, .l]) (.seq (cr [.r, .r, .r, .l, .r, .i, .i, .r, .r, .l, .i, .r, .l]) (.seq (cr [.r, .r, .r, .l, .r, .i, .i, .r, .r, .l, .i, .r, .r, .l]) (.cond (.tmp 85) (cr [.r, .r, .r, .l, .r, .i, .i, .r, .r, .l, .i, .r, .r, .r, .l]) .skip))))) (env,σ)=some (e,(env',σ'))∧
   ((e= .normal∧env'.length=106∧Env.get env' 49= .int .i64 (k:Int)∧Env.get env' 48= .int .i64 ((vs.length:Nat):Int)∧J cx.h σ0 a mb me n st br bn fr pr nx O hp best vs (k+1) env' σ')∨(e≠ .normal∧Ex cx.h σ0 a mb me n st br bn fr pr nx O hp best vs e env' σ')):=by
 rintro k env σ hk hlen f49 f48 ⟨f0,f47,ho⟩
 obtain ⟨u1,u2,u3⟩:=ho
 obtain ⟨ob,hmb⟩:=hmb
 obtain ⟨pp,hia,hpa⟩:=(rdV σ vs).2 k (encVt vs[k]) (get_el hk)
 obtain ⟨hp1,s1⟩:=σ
 simp only at u1 u2 u3
 subst u3
 generalize hM:(vs.take k).foldl (stepB fr) best=M at*
 have hA1: ∀s,(AS.mk (hp.set mb (.map (M.map (ment kI encVt)))) s).get (.hp a)=some (.cells [.int .i64 me, .int .i64 n, .int .i64 st, .int .u64 br, .int .i64 bn, .int .i64 fr, .int .u8 pr, .map (.hp mb),O, .int .i64 nx]):=fun s=>(List.getElem?_set_ne (fun e=>hab e.symm)).trans hA
 have hB1:(hp.set mb (.map (M.map (ment kI encVt))))[mb]?=some (.map (M.map (ment kI encVt))):=List.getElem?_set_self (at_lt2 hmb)
 obtain ⟨env1,x1a,x1b,x1c,x1d⟩:=rE cx env (AS.mk (hp.set mb (.map (M.map (ment kI encVt)))) s1) k _ pp (vs[k]) ((hp.set mb (.map (M.map (ment kI encVt))))) s1 hlen hcx f47 f49 rfl hro2 u2 hia hpa
 have f0:=(x1d 0 (by decide)).trans f0
 have f47:=(x1d 47 (by decide)).trans f47
 have f48:=(x1d 48 (by decide)).trans f48
 have f49:=(x1d 49 (by decide)).trans f49
 have f10:=x1c
 have hlk:=fun s=>lookup_best2 (AS.mk (hp.set mb (.map (M.map (ment kI encVt)))) s) mb M vs[k].s hB1
 obtain ⟨env2,x2a,x2b,x2c,x2d⟩:=mx cx.h cx.ro ((hp.set mb (.map (M.map (ment kI encVt))))) ((s1++ [AObj.cells [.int .i64 vs[k].s, .int .u64 vs[k].r, .int .i64 vs[k].n, .str vs[k].v]])) env1 a mb me n st br bn fr pr nx O (vs[k]) (((mget vs[k].s M).getD zeroVt)) _ s1.length x1b f0 f10 hro2 hA1 (fun t=>get_app (by simp)) (by simp[AS.get]) hlk
 have f0:=(x2d 0 (by decide)).trans f0
 have f10:=(x2d 10 (by decide)).trans f10
 have f47:=(x2d 47 (by decide)).trans f47
 have f48:=(x2d 48 (by decide)).trans f48
 have f49:=(x2d 49 (by decide)).trans f49
 have f11:=x2c.1
 have f12:=x2c.2
 have hcxe:cx=Cx.mk cx.h cx.ro []:=by cases cx; simp only at hcx; subst hcx; rfl
 rw[←hcxe] at x2a
 have k5:=less_c (hp.set mb (.map (M.map (ment kI encVt)))) ((s1++ [AObj.cells [.int .i64 vs[k].s, .int .u64 vs[k].r, .int .i64 vs[k].n, .str vs[k].v]])++ [AObj.cells [.int .i64 ((mget vs[k].s M).getD zeroVt).s, .int .u64 ((mget vs[k].s M).getD zeroVt).r, .int .i64 ((mget vs[k].s M).getD zeroVt).n, .str ((mget vs[k].s M).getD zeroVt).v]]) (some ((s1++ [AObj.cells [.int .i64 vs[k].s, .int .u64 vs[k].r, .int .i64 vs[k].n, .str vs[k].v]])++ [AObj.cells [.int .i64 ((mget vs[k].s M).getD zeroVt).s, .int .u64 ((mget vs[k].s M).getD zeroVt).r, .int .i64 ((mget vs[k].s M).getD zeroVt).n, .str ((mget vs[k].s M).getD zeroVt).v]]).length) ((mget vs[k].s M).getD zeroVt).r ((mget vs[k].s M).getD zeroVt).n vs[k].r vs[k].n (fun j hj=>by cases hj; exact Nat.le_refl _)
 obtain ⟨env3,x3a,x3b,x3c,x3d⟩:=r8 cx env2 (AS.mk (hp.set mb (.map (M.map (ment kI encVt)))) ((s1++ [AObj.cells [.int .i64 vs[k].s, .int .u64 vs[k].r, .int .i64 vs[k].n, .str vs[k].v]])++ [AObj.cells [.int .i64 ((mget vs[k].s M).getD zeroVt).s, .int .u64 ((mget vs[k].s M).getD zeroVt).r, .int .i64 ((mget vs[k].s M).getD zeroVt).n, .str ((mget vs[k].s M).getD zeroVt).v]])) a me n st br bn fr pr nx _ O (vs[k]) (((mget vs[k].s M).getD zeroVt)) _ _ s1.length ((s1++ [AObj.cells [.int .i64 vs[k].s, .int .u64 vs[k].r, .int .i64 vs[k].n, .str vs[k].v]]).length) ((hp.set mb (.map (M.map (ment kI encVt))))) (((s1++ [AObj.cells [.int .i64 vs[k].s, .int .u64 vs[k].r, .int .i64 vs[k].n, .str vs[k].v]])++ [AObj.cells [.int .i64 ((mget vs[k].s M).getD zeroVt).s, .int .u64 ((mget vs[k].s M).getD zeroVt).r, .int .i64 ((mget vs[k].s M).getD zeroVt).n, .str ((mget vs[k].s M).getD zeroVt).v]])) x2b hcx f0 f10 f11 f12 rfl (hA1 _) (by simp[AS.get]) (by simp[AS.get]) k5
 have f0:=(x3d 0 (by decide)).trans f0
 have f10:=(x3d 10 (by decide)).trans f10
 have f11:=(x3d 11 (by decide)).trans f11
 have f12:=(x3d 12 (by decide)).trans f12
 have f47:=(x3d 47 (by decide)).trans f47
 have f48:=(x3d 48 (by decide)).trans f48
 have f49:=(x3d 49 (by decide)).trans f49
 have f85:=x3c
 have ev1:=ev_tmp f85
 have htk:(vs.take (k+1)).foldl (stepB fr) best=stepB fr M vs[k]:=by rw[List.take_succ_eq_append_getElem hk,List.foldl_append,hM]; rfl
 have hst:((s1++ [AObj.cells [.int .i64 vs[k].s, .int .u64 vs[k].r, .int .i64 vs[k].n, .str vs[k].v]])++ [AObj.cells [.int .i64 ((mget vs[k].s M).getD zeroVt).s, .int .u64 ((mget vs[k].s M).getD zeroVt).r, .int .i64 ((mget vs[k].s M).getD zeroVt).n, .str ((mget vs[k].s M).getD zeroVt).v]]).take cx.h=σ0.st.take cx.h:=by rw[List.append_assoc,List.take_append_of_le_length u2]; exact u1
 have hsl:cx.h≤((s1++ [AObj.cells [.int .i64 vs[k].s, .int .u64 vs[k].r, .int .i64 vs[k].n, .str vs[k].v]])++ [AObj.cells [.int .i64 ((mget vs[k].s M).getD zeroVt).s, .int .u64 ((mget vs[k].s M).getD zeroVt).r, .int .i64 ((mget vs[k].s M).getD zeroVt).n, .str ((mget vs[k].s M).getD zeroVt).v]]).length:=by simp; omega
 cases qc:(decide (fr≤vs[k].s) && (decide (vs[k].s<400) && (!(mget vs[k].s M).isSome || lessB ((mget vs[k].s M).getD zeroVt).r ((mget vs[k].s M).getD zeroVt).n vs[k].r vs[k].n))) with
 | true=>
  have ev1:=ev1.trans (congrArg (fun b=>some (AV.bool b)) qc)
  have hmu:=update_best hro2 (hp.set mb (.map (M.map (ment kI encVt)))) ((s1++ [AObj.cells [.int .i64 vs[k].s, .int .u64 vs[k].r, .int .i64 vs[k].n, .str vs[k].v]])++ [AObj.cells [.int .i64 ((mget vs[k].s M).getD zeroVt).s, .int .u64 ((mget vs[k].s M).getD zeroVt).r, .int .i64 ((mget vs[k].s M).getD zeroVt).n, .str ((mget vs[k].s M).getD zeroVt).v]]) mb M vs[k] hB1
  rw[List.set_set] at hmu
  obtain ⟨env4,x4a,x4b,x4c,x4d⟩:=r9 cx env3 (AS.mk (hp.set mb (.map (M.map (ment kI encVt)))) ((s1++ [AObj.cells [.int .i64 vs[k].s, .int .u64 vs[k].r, .int .i64 vs[k].n, .str vs[k].v]])++ [AObj.cells [.int .i64 ((mget vs[k].s M).getD zeroVt).s, .int .u64 ((mget vs[k].s M).getD zeroVt).r, .int .i64 ((mget vs[k].s M).getD zeroVt).n, .str ((mget vs[k].s M).getD zeroVt).v]])) a mb me n st br bn fr pr nx O (vs[k]) s1.length _ ((hp.set mb (.map (M.map (ment kI encVt))))) (((s1++ [AObj.cells [.int .i64 vs[k].s, .int .u64 vs[k].r, .int .i64 vs[k].n, .str vs[k].v]])++ [AObj.cells [.int .i64 ((mget vs[k].s M).getD zeroVt).s, .int .u64 ((mget vs[k].s M).getD zeroVt).r, .int .i64 ((mget vs[k].s M).getD zeroVt).n, .str ((mget vs[k].s M).getD zeroVt).v]])) x3b hcx f0 f10 rfl (hA1 _) (by simp[AS.get]) hmu
  have f0:=(x4d 0 (by decide)).trans f0
  have f10:=(x4d 10 (by decide)).trans f10
  have f11:=(x4d 11 (by decide)).trans f11
  have f12:=(x4d 12 (by decide)).trans f12
  have f47:=(x4d 47 (by decide)).trans f47
  have f48:=(x4d 48 (by decide)).trans f48
  have f49:=(x4d 49 (by decide)).trans f49
  have f85:=(x4d 85 (by decide)).trans f85
  exact ⟨.normal,env4,_,(execW_block_of (execW_seq_of x1a (execW_seq_of x2a (execW_seq_of x3a (execW_cond_t ev1 x4a))))), .inl ⟨rfl,x4b,f49,f48,f0,f47,⟨hst,hsl,by rw[htk]; unfold stepB; rw[if_pos qc]⟩⟩⟩
 | false=>
  have ev1:=ev1.trans (congrArg (fun b=>some (AV.bool b)) qc)
  exact ⟨.normal,env3,_,(execW_block_of (execW_seq_of x1a (execW_seq_of x2a (execW_seq_of x3a (execW_cond_f ev1 (by rfl)))))), .inl ⟨rfl,x3b,f49,f48,f0,f47,⟨hst,hsl,by rw[htk]; unfold stepB; rw[if_neg (by rw[qc]; simp)]⟩⟩⟩
theorem loop (cx:Cx) (hcx:cx.esc= []) (hro: ∀k,cx.ro=some k→k≤cx.h) (σ0:AS) (a mb:Nat) (me n st br bn fr pr nx:Int) (O:AV) (hp:List AObj) (best:List (Int×Vt)) (vs:List Vt) (hro2:cx.ro=none) (hA:hp[a]?=some (.cells [.int .i64 me, .int .i64 n, .int .i64 st, .int .u64 br, .int .i64 bn, .int .i64 fr, .int .u8 pr, .map (.hp mb),O, .int .i64 nx])) (hmb: ∃ob,hp[mb]?=some ob) (hab:a≠mb) (hnn:vs.length≤9223372036854775807) {env:Env} {σ:AS} (hl:env.length=106) (h1:Env.get env 49= .int .i64 0) (h2:Env.get env 48= .int .i64 ((vs.length:Nat):Int)) (h0:J cx.h σ0 a mb me n st br bn fr pr nx O hp best vs 0 env σ):
  ∃e env' σ',execW Try.prog cx [2000007] (callW Try.prog how) (cr [.r, .r, .r, .l, .r]) (env,σ)=some (e,(env',σ'))∧((e= .normal∧((env'.length=106∧J cx.h σ0 a mb me n st br bn fr pr nx O hp best vs (vs.length) env' σ')∨Ex cx.h σ0 a mb me n st br bn fr pr nx O hp best vs (.exit 0) env' σ'))∨(e≠ .normal∧e≠ .exit 0∧Ex cx.h σ0 a mb me n st br bn fr pr nx O hp best vs e env' σ')):=by
 rw[loop_eq]
 exact range_std (Ex:=Ex cx.h σ0 a mb me n st br bn fr pr nx O hp best vs) (N:=106) (tc:=50) (ti:=49) (tl:=48) (tx:=93) (ty1:=3) (ty2:=3) (ty3:=3) (ty4:=3) ⟨by kernel_rfl,by kernel_rfl,by kernel_rfl⟩ ⟨by kernel_rfl,by kernel_rfl,by kernel_rfl⟩ ⟨by kernel_rfl,by kernel_rfl,by kernel_rfl⟩ (by decide) hnn J_stable (step cx hcx hro σ0 a mb me n st br bn fr pr nx O hp best vs hro2 hA hmb hab) hl h1 h2 h0
theorem ok (hp s:List AObj) (a:Nat) (me n k rd rn:Int) (vs:List Vt) (p:Lv) (F:List Nat) (h:StL hp a me n p F) (hpr:MOk p.pr) (hfr:0≤p.fr∧p.fr≤400) (hask:p.st=1→p.op= []∧ ∀e∈p.best,0≤e.1∧e.1<400) (hvl:vs.length≤1000):
  ∃hp' F',callW Try.prog how 10 [.ptr (.hp a) 0, .int .i64 k, .agg [.int .u64 rd, .int .i64 rn],slV 4 (vs.map encVt)] ⟨hp,s⟩ none=some (.bool (prL n p k rd rn vs).2,⟨hp',s⟩)∧StL hp' a me n (prL n p k rd rn vs).1 F'∧Stp hp hp' a F F':=by
 let cx:Cx:={h:=s.length,ro:=none,esc:= []}
 have hcx:cx.esc= []:=rfl
 have hro: ∀k,cx.ro=some k→k≤cx.h:=fun k hk=>by cases hk
 obtain ⟨env,henv⟩: ∃e,e=frameA Try.f10 [.ptr (.hp a) 0, .int .i64 k, .agg [.int .u64 rd, .int .i64 rn],slV 4 (vs.map encVt)]:=⟨_,rfl⟩
 have hlen:env.length=106:=by rw[henv]; rfl
 have f0:Env.get env 0= .ptr (.hp a) 0:=by rw[henv]; rfl
 have f1:Env.get env 1= .int .i64 k:=by rw[henv]; rfl
 have f2:Env.get env 2= .agg [.int .u64 rd, .int .i64 rn]:=by rw[henv]; rfl
 have f3:Env.get env 3=slV 4 (vs.map encVt):=by rw[henv]; rfl
 have ho:Outside s.length (AS.mk hp s) (AS.mk hp s):=Outside.refl (Nat.le_refl _)
 obtain ⟨B,O,hA⟩:=h.at_
 have hal:=at_lt2 hA
 obtain ⟨env1,x1a,x1b,x1c,x1d⟩:=rA cx env (AS.mk hp s) hp s rd rn hlen hcx f2 rfl rfl
 have f0:=(x1d 0 (by decide)).trans f0
 have f1:=(x1d 1 (by decide)).trans f1
 have f2:=(x1d 2 (by decide)).trans f2
 have f3:=(x1d 3 (by decide)).trans f3
 have f6:=x1c.1
 have f8:=x1c.2
 have k1:=state_c hp (s++ [AObj.cells [.int .u64 rd, .int .i64 rn]]) (some (s++ [AObj.cells [.int .u64 rd, .int .i64 rn]]).length) a me n p.st p.br p.bn p.fr p.pr p.nx B O (fun k hk=>by cases hk; exact Nat.le_refl _) (fun _=>hA)
 have k2:=one_c hp (s++ [AObj.cells [.int .u64 rd, .int .i64 rn]]) (some (s++ [AObj.cells [.int .u64 rd, .int .i64 rn]]).length) a me n p.st p.br p.bn p.fr p.pr p.nx B O k (fun k hk=>by cases hk; exact Nat.le_refl _) (fun _=>hA)
 have k3:=has_c hp (s++ [AObj.cells [.int .u64 rd, .int .i64 rn]]) (some (s++ [AObj.cells [.int .u64 rd, .int .i64 rn]]).length) p.pr k (fun k hk=>by cases hk; exact Nat.le_refl _) hpr
 obtain ⟨env2,x2a,x2b,x2c,x2d⟩:=r1 cx env1 (AS.mk hp (s++ [AObj.cells [.int .u64 rd, .int .i64 rn]])) a me n p.st p.br p.bn p.fr p.pr p.nx B O rd rn k _ _ s.length hp ((s++ [AObj.cells [.int .u64 rd, .int .i64 rn]])) x1b hcx f0 f1 f6 rfl hA (by simp[AS.get]) k1 k2 k3
 have f0:=(x2d 0 (by decide)).trans f0
 have f1:=(x2d 1 (by decide)).trans f1
 have f2:=(x2d 2 (by decide)).trans f2
 have f3:=(x2d 3 (by decide)).trans f3
 have f6:=(x2d 6 (by decide)).trans f6
 have f8:=(x2d 8 (by decide)).trans f8
 have f37:=x2c
 have f37:Env.get env2 37= .bool (!askedL n p k rd rn):=f37
 have ev1:=ev_tmp f37
 cases q:askedL n p k rd rn with
 | false=>
  rw[q] at ev1
  obtain ⟨env3,x3a,x3b,x3c,x3d⟩:=r2 cx env2 (AS.mk hp (s++ [AObj.cells [.int .u64 rd, .int .i64 rn]])) x2b hcx
  have f0:=(x3d 0 (by decide)).trans f0
  have f1:=(x3d 1 (by decide)).trans f1
  have f2:=(x3d 2 (by decide)).trans f2
  have f3:=(x3d 3 (by decide)).trans f3
  have f6:=(x3d 6 (by decide)).trans f6
  have f37:=(x3d 37 (by decide)).trans f37
  have f8:=x3c
  have e1:prL n p k rd rn vs=(p,false):=by unfold prL; rw[q]; rfl
  rw[e1]
  exact ⟨hp,F,call_of (fl:={tails:= [2000007]}) (fn:=Try.f10) (c:=bodyC) (env:=env) (e:=(.ret,(env3,AS.mk hp (s++ [AObj.cells [.int .u64 rd, .int .i64 rn]])))) rfl Try.func10 body henv (by unfold bodyC; exact (execW_seq_of x1a (execW_seq_ret (execW_seq_of x2a (execW_cond_t ev1 (execW_seq_of x3a (by rfl))))))) ((fin_tmp (k:=8) (w:= .bool false) (.inl rfl) rfl rfl f8 (by simp[AV.back]) (by simp[AV.inb])).trans (by simp)),h,Stp.refl _ _ _⟩
 | true=>
  rw[q] at ev1
  have hst:p.st=1:=by
   have q':=q
   simp only[askedL,Bool.and_eq_true,decide_eq_true_eq] at q'
   exact q'.1.1.1
  have e0:prL n p k rd rn vs=if winsM (takeS p k vs).pr n=true then (leadS (takeS p k vs),true) else (takeS p k vs,false):=by
   unfold prL; rw[if_pos q]
  obtain ⟨hop,hkeys⟩:=hask hst
  rcases h with ⟨rfl,_,_⟩ | ⟨hst0,mb,mo,L,h,rfl⟩
  ·exact absurd hst (by decide)
  have hL0:L= []:=by
   have:=h.op
   rw[hop] at this
   cases L with
   | nil=>rfl
   | cons x l=>cases this
  subst hL0
  have hna:=h.na
  simp only[List.map_nil,List.mem_cons,List.not_mem_nil,or_false,not_or] at hna
  obtain ⟨hab,hao⟩:=hna
  have hbo:mb≠mo:=by
   have:=h.nd
   simp at this
   exact this
  have k4:=with_c hp (s++ [AObj.cells [.int .u64 rd, .int .i64 rn]]) none p.pr k (fun k hk=>by cases hk) hpr
  obtain ⟨env3,x3a,x3b,x3c,x3d⟩:=r3 cx env2 (AS.mk hp (s++ [AObj.cells [.int .u64 rd, .int .i64 rn]])) a me n p.st p.br p.bn p.fr p.pr p.nx _ _ k _ hp ((s++ [AObj.cells [.int .u64 rd, .int .i64 rn]])) x2b hcx f0 f1 rfl rfl h.oA k4
  have f0:=(x3d 0 (by decide)).trans f0
  have f1:=(x3d 1 (by decide)).trans f1
  have f2:=(x3d 2 (by decide)).trans f2
  have f3:=(x3d 3 (by decide)).trans f3
  have f6:=(x3d 6 (by decide)).trans f6
  have f8:=(x3d 8 (by decide)).trans f8
  have f37:=(x3d 37 (by decide)).trans f37
  have hl:=(rdV (AS.mk (hp.set a (.cells (cellsL me n {p with pr:=withM p.pr k} (.map (.hp mb)) (.map (.hp mo))))) (s++ [AObj.cells [.int .u64 rd, .int .i64 rn]])) vs).1
  rw[List.length_map] at hl
  obtain ⟨env4,x4a,x4b,x4c,x4d⟩:=r4 cx env3 (AS.mk (hp.set a (.cells (cellsL me n {p with pr:=withM p.pr k} (.map (.hp mb)) (.map (.hp mo))))) (s++ [AObj.cells [.int .u64 rd, .int .i64 rn]])) _ vs.length x3b hcx f3 hl
  have f0:=(x4d 0 (by decide)).trans f0
  have f1:=(x4d 1 (by decide)).trans f1
  have f2:=(x4d 2 (by decide)).trans f2
  have f3:=(x4d 3 (by decide)).trans f3
  have f6:=(x4d 6 (by decide)).trans f6
  have f8:=(x4d 8 (by decide)).trans f8
  have f37:=(x4d 37 (by decide)).trans f37
  have f47:=x4c.1
  have f48:=x4c.2.1
  have f49:=x4c.2.2
  have hA1:(hp.set a (.cells (cellsL me n {p with pr:=withM p.pr k} (.map (.hp mb)) (.map (.hp mo)))))[a]?=some (.cells (cellsL me n {p with pr:=withM p.pr k} (.map (.hp mb)) (.map (.hp mo)))):=List.getElem?_set_self hal
  have hB1:(hp.set a (.cells (cellsL me n {p with pr:=withM p.pr k} (.map (.hp mb)) (.map (.hp mo)))))[mb]?=some (.map (p.best.map (ment kI encVt))):=by rw[List.getElem?_set_ne hab]; exact h.oB
  have hO1:(hp.set a (.cells (cellsL me n {p with pr:=withM p.pr k} (.map (.hp mb)) (.map (.hp mo)))))[mo]?=some (.map []):=by rw[List.getElem?_set_ne hao]; exact h.oO
  have hH0:(hp.set a (.cells (cellsL me n {p with pr:=withM p.pr k} (.map (.hp mb)) (.map (.hp mo)))))=((hp.set a (.cells (cellsL me n {p with pr:=withM p.pr k} (.map (.hp mb)) (.map (.hp mo))))).set mb (.map ((((vs.take 0).foldl (stepB p.fr) p.best)).map (ment kI encVt)))):=(List.set_getElem?_self' (by simpa using hB1)).symm
  obtain ⟨e5,env5,σ5,x5a,x5p⟩:=loop cx hcx hro ⟨(hp.set a (.cells (cellsL me n {p with pr:=withM p.pr k} (.map (.hp mb)) (.map (.hp mo))))),(s++ [AObj.cells [.int .u64 rd, .int .i64 rn]])⟩ a mb me n p.st p.br p.bn p.fr (withM p.pr k) p.nx (.map (.hp mo)) (hp.set a (.cells (cellsL me n {p with pr:=withM p.pr k} (.map (.hp mb)) (.map (.hp mo))))) p.best vs rfl hA1 ⟨_,hB1⟩ hab (by omega) (σ:=AS.mk (hp.set a (.cells (cellsL me n {p with pr:=withM p.pr k} (.map (.hp mb)) (.map (.hp mo))))) (s++ [AObj.cells [.int .u64 rd, .int .i64 rn]])) x4b f49 f48 (⟨f0,f47,rfl,(by simp[cx]),hH0⟩)
  rcases x5p with ⟨rfl,⟨x5b,f0,f47,ho⟩ | x5p⟩ | ⟨x5q,x5r,x5p⟩
  ·skip
   obtain ⟨u1,u2,u3⟩:=ho
   obtain ⟨hp2,s2⟩:=σ5
   simp only at u1 u2 u3
   rw[List.take_length] at u3
   have hA2:hp2[a]?=some (.cells (cellsL me n (takeS p k vs) (.map (.hp mb)) (.map (.hp mo)))):=by rw[u3,List.getElem?_set_ne (fun e=>hab e.symm)]; exact hA1
   have hB2:hp2[mb]?=some (.map ((takeS p k vs).best.map (ment kI encVt))):=by rw[u3]; exact List.getElem?_set_self (at_lt2 hB1)
   have hO2:hp2[mo]?=some (.map []):=by rw[u3,List.getElem?_set_ne hbo]; exact hO1
   have hlen2:hp2.length=hp.length:=by rw[u3]; simp
   have hk2:Kp hp hp2 (a :: mb :: mo :: []):=by rw[u3]; exact (Kp.set hp a _ _ (by simp)).trans (Kp.set _ mb _ _ (by simp))
   have hpr2:MOk (takeS p k vs).pr:=with_ok hpr
   have hs2:s2.take s.length=s:=by
    rw[u1]
    show (s++_).take s.length=s
    simp
   have k6:=wins_c hp2 s2 (some s2.length) (takeS p k vs).pr n (fun k hk=>by cases hk; exact Nat.le_refl _) hpr2
   obtain ⟨env6,x6a,x6b,x6c,x6d⟩:=r11 cx env5 (AS.mk hp2 s2) a me n ((takeS p k vs).st) ((takeS p k vs).br) ((takeS p k vs).bn) ((takeS p k vs).fr) ((takeS p k vs).pr) ((takeS p k vs).nx) _ _ _ hp2 s2 x5b hcx f0 rfl hA2 k6
   have f0:=(x6d 0 (by decide)).trans f0
   have f47:=(x6d 47 (by decide)).trans f47
   have f103:=x6c
   have ev3:=ev_tmp f103
   cases hw:winsM (takeS p k vs).pr n with
   | false=>
    rw[hw] at ev3
    rw[hw,if_neg (by simp)] at e0
    rw[e0]
    obtain ⟨env7,x7a,x7b,x7c,x7d⟩:=r12 cx env6 (AS.mk hp2 s2) x6b hcx
    have f0:=(x7d 0 (by decide)).trans f0
    have f47:=(x7d 47 (by decide)).trans f47
    have f103:=(x7d 103 (by decide)).trans f103
    have f8:=x7c
    exact ⟨hp2,_,call_of (fl:={tails:= [2000007]}) (fn:=Try.f10) (c:=bodyC) (env:=env) (e:=(.ret,(env7,AS.mk hp2 s2))) rfl Try.func10 body henv (by unfold bodyC; exact (execW_seq_of x1a (execW_seq_of (execW_seq_of x2a (execW_cond_f ev1 (by rfl))) (execW_seq_of x3a (execW_seq_of (execW_seq_of x4a x5a) (execW_seq_ret (execW_seq_of x6a (execW_cond_t ev3 (execW_seq_of x7a (by rfl)))))))))) ((fin_tmp (k:=8) (w:= .bool false) (.inl rfl) rfl rfl f8 (by simp[AV.back]) (by simp[AV.inb])).trans (congrArg (fun z=>some (_,AS.mk _ z)) hs2)), .inr ⟨hst0,mb,mo,[],{oA:=hA2,oB:=hB2,oO:=hO2,op:=h.op,oP:=fun e he=>(by cases he),nd:=h.nd,na:=h.na},rfl⟩,hk2,fun i hi=> .inl hi⟩
   | true=>
    rw[hw] at ev3
    rw[hw,if_pos rfl] at e0
    rw[e0]
    have hkt: ∀e∈(takeS p k vs).best,0≤e.1∧e.1<400:=foldB_keys hfr.1 hkeys
    have hLI:LeadIn hp2 a mb mo me n (takeS p k vs).st (takeS p k vs).br (takeS p k vs).bn (takeS p k vs).fr (takeS p k vs).pr (takeS p k vs).nx (takeS p k vs).best:=⟨hA2,hB2,hO2,hbo,fun e he=>by have:=hkt e he; omega,by have:=hfr; exact ⟨this.1,Int.le_trans this.2 (by decide)⟩⟩
    have k7:callW Try.prog how 30 [.ptr (.hp a) 0] ⟨hp2,s2⟩ none=some (.tup [],⟨leadHp hp2 a mb mo me n (takeS p k vs).br (takeS p k vs).bn (takeS p k vs).fr (takeS p k vs).pr (takeS p k vs).best,s2⟩):=
     callW_prim rfl (leadP_eq ⟨rfl,a,mb,mo,me,n,_,_,_,_,_,_,_,rfl,hLI,rfl⟩)
    obtain ⟨env7,x7a,x7b,x7c,x7d⟩:=r13 cx env6 (AS.mk hp2 s2) a ((leadHp hp2 a mb mo me n (takeS p k vs).br (takeS p k vs).bn (takeS p k vs).fr (takeS p k vs).pr (takeS p k vs).best)) hp2 s2 x6b hcx f0 rfl rfl k7
    have f0:=(x7d 0 (by decide)).trans f0
    have f47:=(x7d 47 (by decide)).trans f47
    have f103:=(x7d 103 (by decide)).trans f103
    obtain ⟨env8,x8a,x8b,x8c,x8d⟩:=r14 cx env7 (AS.mk (leadHp hp2 a mb mo me n (takeS p k vs).br (takeS p k vs).bn (takeS p k vs).fr (takeS p k vs).pr (takeS p k vs).best) s2) x7b hcx
    have f0:=(x8d 0 (by decide)).trans f0
    have f47:=(x8d 47 (by decide)).trans f47
    have f103:=(x8d 103 (by decide)).trans f103
    have f8:=x8c
    obtain ⟨L3,z1,z2⟩:=lead_st hLI (fun e=>hab e.symm) (fun e=>hao e.symm)
    refine ⟨(leadHp hp2 a mb mo me n (takeS p k vs).br (takeS p k vs).bn (takeS p k vs).fr (takeS p k vs).pr (takeS p k vs).best),_,call_of (fl:={tails:= [2000007]}) (fn:=Try.f10) (c:=bodyC) (env:=env) (e:=(.ret,(env8,AS.mk (leadHp hp2 a mb mo me n (takeS p k vs).br (takeS p k vs).bn (takeS p k vs).fr (takeS p k vs).pr (takeS p k vs).best) s2))) rfl Try.func10 body henv (by unfold bodyC; exact (execW_seq_of x1a (execW_seq_of (execW_seq_of x2a (execW_cond_f ev1 (by rfl))) (execW_seq_of x3a (execW_seq_of (execW_seq_of x4a x5a) (execW_seq_of (execW_seq_of x6a (execW_cond_f ev3 (by rfl))) (execW_seq_of x7a (execW_seq_of x8a (by rfl))))))))) ((fin_tmp (k:=8) (w:= .bool true) (.inl rfl) rfl rfl f8 (by simp[AV.back]) (by simp[AV.inb])).trans (congrArg (fun z=>some (_,AS.mk _ z)) hs2)), .inr ⟨(by show (2:Int)≠0; decide),mb,mo,L3,z1,rfl⟩,?_,?_⟩
    ·exact hk2.trans (z2.1.mono fun i hi=> .inl hi)
    ·intro i hi
     simp only[List.mem_cons] at hi ⊢
     rcases hi with hi | hi | hi
     ·exact .inl (.inl hi)
     ·exact .inl (.inr (.inl hi))
     ·have:=z2.2 i hi
      exact .inr (by omega)
  ·cases x5p
  ·cases x5p
end LProm
