/- Walk 4. -/

import Derived.Test.YtidfkjpcpgeilaaF3
open Go Go.Abs Go.Proofs
set_option maxRecDepth 100000
set_option maxHeartbeats 4000000
set_option linter.unusedSimpArgs false
set_option linter.unusedVariables false
open Ldr
theorem get_app {hp s t:List AObj} {i:Nat} {ob:AObj} (h:s[i]?=some ob):(AS.mk hp (s++t)).get (.st i)=some ob:=by
 show (s++t)[i]?=_
 rw[List.getElem?_append_left (List.getElem?_eq_some_iff.1 h).1]
 exact h
theorem fin_two {P:Program} {fl:Flags} {fn:Func} {h:Nat} {en:Env} {σ:AS} {v v' w:AV} {e:AExit} (he:e= .ret∨e= .normal) (hk:fl.keep=false) (hr:resA P σ en fn.results.toList=some [v,v']) (hb:(AV.tup [v,v']).back h σ=some w) (hi:w.inb h=true):finishA P fl fn h (some (e,(en,σ)))=some (w,⟨σ.hp,σ.st.take h⟩):=by
 rcases he with rfl | rfl <;> simp[finishA,hr,hk,oneA,hb,hi]
theorem fin_cell {P:Program} {fl:Flags} {fn:Func} {h:Nat} {en:Env} {σ:AS} {v:AV} {w:AV} {e:AExit} (he:e= .ret∨e= .normal) (hk:fl.keep=false) (hr:resA P σ en fn.results.toList=some [v]) (hb:v.back h σ=some w) (hi:w.inb h=true):finishA P fl fn h (some (e,(en,σ)))=some (w,⟨σ.hp,σ.st.take h⟩):=by
 rcases he with rfl | rfl <;> simp[finishA,hr,hk,oneA,hb,hi]
section
attribute [local simp] ofV ofCell ofCells seqA_nil seqA_cons seqVK_eq seqEK_eq wantedA yieldedA isVal effA ev evs evps putE optsA optsOk valA fieldAddrA fieldA loadA partA aggA isAggD buildA placesA fillA lay storeA AV.withCells buildSliceA elemsA rowParts fzL promL okE isSrc bytesOk pushA cxOf lenA binA intBinA strBinA unA indexAddrA eqA AVs.inb AV.inb Loc.inb calleeA opsOf sub bodyOf Env.get_set quietA_nil quietA_cons quietK_none quietK_some qstep newA isNew escNew boxOk newLoc flat rowPartsQ quietN quietOp isBS List.takeWhile finishA_eq finK_ret finK_normal retK backK resA oneA AV.back AVs.back execW_seq_eq seqK_normal seqK_ret seqK_exit execW_cond_eq condK_true condK_false execW_block_eq blockK_exit blockK_normal blockK_ret execW_region_eq regK_eq execW_skip execW_exit execW_ret regionA_plain regionA_quiet0 tailK_eq nilCheckA guardOk isConst lookupA keyFits mapUpdateA beqI bneI
theorem bnext_full (hp s:List AObj) (ro:Option Nat) (r bn k:Int) (hro: ∀k,ro=some k→k≤s.length) (k1:callW Try.prog how 45 [.int .i64 k] ⟨hp,s++ [.cells [.int .u64 r, .int .i64 bn], .cells [.int .u64 0, .int .i64 0]]⟩ ro=some (.bool true,⟨hp,s++ [.cells [.int .u64 r, .int .i64 bn], .cells [.int .u64 0, .int .i64 0]]⟩)) (q:r=18446744073709551615):
  callW Try.prog how 21 [.agg [.int .u64 r, .int .i64 bn], .int .i64 k] ⟨hp,s⟩ ro=some (.tup [.agg [.int .u64 0, .int .i64 0], .int .i64 9],⟨hp,s⟩):=by
 refine callW_body (fl:={}) (fn:=Try.f21) (c:=bodyOf Try.f21) rfl Try.func21 rfl ?_
 have henv: ∃e,e=frameA Try.f21 [.agg [.int .u64 r, .int .i64 bn], .int .i64 k]:=⟨_,rfl⟩
 obtain ⟨env,henv⟩:=henv
 have hl:env.length=21:=by rw[henv]; rfl
 have h0:Env.get env 0= .agg [.int .u64 r, .int .i64 bn]:=by rw[henv]; rfl
 have h1:Env.get env 1= .int .i64 k:=by rw[henv]; rfl
 rw[←henv]
 clear henv
 subst q
 simp -implicitDefEqProofs [Try.f21,hl,h0,h1,wok_le hro,wok_le' hro,k1,List.append_assoc]
theorem bnext_ok (hp s:List AObj) (ro:Option Nat) (r bn k:Int) (hro: ∀k,ro=some k→k≤s.length) (k1:callW Try.prog how 45 [.int .i64 k] ⟨hp,s++ [.cells [.int .u64 r, .int .i64 bn], .cells [.int .u64 0, .int .i64 0]]⟩ ro=some (.bool true,⟨hp,s++ [.cells [.int .u64 r, .int .i64 bn], .cells [.int .u64 0, .int .i64 0]]⟩)) (q: ¬r=18446744073709551615) (hw:wr .u64 (r+1)=r+1):
  callW Try.prog how 21 [.agg [.int .u64 r, .int .i64 bn], .int .i64 k] ⟨hp,s⟩ ro=some (.tup [.agg [.int .u64 (r+1), .int .i64 k], .int .i64 0],⟨hp,s⟩):=by
 refine callW_body (fl:={}) (fn:=Try.f21) (c:=bodyOf Try.f21) rfl Try.func21 rfl ?_
 have henv: ∃e,e=frameA Try.f21 [.agg [.int .u64 r, .int .i64 bn], .int .i64 k]:=⟨_,rfl⟩
 obtain ⟨env,henv⟩:=henv
 have hl:env.length=21:=by rw[henv]; rfl
 have h0:Env.get env 0= .agg [.int .u64 r, .int .i64 bn]:=by rw[henv]; rfl
 have h1:Env.get env 1= .int .i64 k:=by rw[henv]; rfl
 rw[←henv]
 clear henv
 simp -implicitDefEqProofs [Try.f21,hl,h0,h1,wok_le hro,wok_le' hro,k1,q,hw,List.append_assoc]
end
theorem bnext_c (hp s:List AObj) (ro:Option Nat) (r bn k:Int) (hro: ∀k,ro=some k→k≤s.length) (h0:0≤r∧r≤18446744073709551615) (hk:0≤k∧k<5):
  callW Try.prog how 21 [.agg [.int .u64 r, .int .i64 bn], .int .i64 k] ⟨hp,s⟩ ro=some (if r=18446744073709551615 then .tup [.agg [.int .u64 0, .int .i64 0], .int .i64 9] else .tup [.agg [.int .u64 (r+1), .int .i64 k], .int .i64 0],⟨hp,s⟩):=by
 have k1:=master_c hp (s++ [.cells [.int .u64 r, .int .i64 bn], .cells [.int .u64 0, .int .i64 0]]) ro k (fun j hj=>Nat.le_trans (hro j hj) (by simp))
 rw[decide_eq_true hk.1,decide_eq_true hk.2] at k1
 by_cases q:r=18446744073709551615
 ·rw[if_pos q]
  exact bnext_full hp s ro r bn k hro k1 q
 ·rw[if_neg q]
  exact bnext_ok hp s ro r bn k hro k1 q (wr_u64 (by omega) (by omega))
namespace LBeg
noncomputable def cr (p:List Dir):Code:=sub p (bodyOf Try.f7)
section
attribute [local simp] ofV ofCell ofCells seqA_nil seqA_cons seqVK_eq seqEK_eq wantedA yieldedA isVal effA ev evs evps putE optsA optsOk valA fieldAddrA fieldA loadA partA aggA isAggD buildA placesA fillA lay storeA AV.withCells buildSliceA elemsA rowParts fzL promL okE isSrc bytesOk pushA cxOf lenA binA intBinA strBinA unA indexAddrA eqA AVs.inb AV.inb Loc.inb calleeA opsOf sub bodyOf Env.get_set quietA_nil quietA_cons quietK_none quietK_some qstep newA isNew escNew boxOk newLoc flat rowPartsQ quietN quietOp isBS List.takeWhile finishA_eq finK_ret finK_normal retK backK resA oneA AV.back AVs.back execW_seq_eq seqK_normal seqK_ret seqK_exit execW_cond_eq condK_true condK_false execW_block_eq blockK_exit blockK_normal blockK_ret execW_region_eq regK_eq execW_skip execW_exit execW_ret regionA_plain regionA_quiet0 tailK_eq nilCheckA guardOk isConst lookupA keyFits mapUpdateA beqI bneI mixZ_nil mixZ_cons mixKZ_eq tKZ_pre tKZ_eq tK_pre tK_eq vK_eq resv_eq stepZ_0 stepZ_1n stepZ_1s stepZ_2 stepZ_3 stepZ_4 stepZ_5 cutCall newZ tchkL agreeB Op.operands sameO truncM beq_bool beq_int beq_str beq_nilp beq_ptr beq_eptr beq_nils beq_row beq_nilm beq_map beq_agg beq_sl beqs_nil beqs_cons
theorem rA (cx:Cx) (env:Env) (σ:AS) (hp s:List AObj) (rd rn:Int) (hlen:env.length=51) (hcx:cx.esc= [46,47]) (f1:Env.get env 1= .agg [.int .u64 rd, .int .i64 rn]) (hσ:σ=⟨hp,s⟩) (hro0:cx.ro=none):
  Pc Try.prog how cx [2000005] 51 [4,6,7] (cr [.l]) env σ (.normal) (AS.mk hp (s++ [.cells [.int .u64 rd, .int .i64 rn], .cells [.int .u64 0, .int .i64 0]])) (fun env'=>Env.get env' 4= .ptr (.st s.length) 0∧Env.get env' 6= .ptr (.st (s.length+1)) 0∧Env.get env' 7= .int .i64 0):=by
 refine pc_of fun res hr=>?_
 simp -implicitDefEqProofs [AS.get_push_at,AS.get_push_old,AS.push_len,AS.set_st_len,AS.next_st',AS.set_push_at,AS.get_set_self,AS.get_set_other,cr,Try.f7,hlen,hcx,f1,hσ,hro0,List.append_assoc] at hr
 subst hr
 refine ⟨_,rfl,by simp[hlen],by simp[Env.get_set,hlen,f1,hσ,hro0,List.append_assoc],fun i hi=>?_⟩
 simp only[List.mem_cons,List.not_mem_nil,or_false,not_or] at hi
 simp only[putE,get_set2,hi,false_and,if_false]
theorem r1 (cx:Cx) (env:Env) (σ:AS) (a:Nat) (hlen:env.length=51) (hcx:cx.esc= [46,47]) (f0:Env.get env 0= .ptr (.hp a) 0):
  Pc Try.prog how cx [2000005] 51 [10,11,12] (cr [.r, .l, .i, .l]) env σ (.normal) (σ) (fun env'=>Env.get env' 10= .bool false):=by
 refine pc_of fun res hr=>?_
 simp -implicitDefEqProofs [AS.get_push_at,AS.get_push_old,AS.push_len,AS.set_st_len,AS.next_st',AS.set_push_at,AS.get_set_self,AS.get_set_other,cr,Try.f7,hlen,hcx,f0] at hr
 subst hr
 refine ⟨_,rfl,by simp[hlen],by simp[Env.get_set,hlen,f0],fun i hi=>?_⟩
 simp only[List.mem_cons,List.not_mem_nil,or_false,not_or] at hi
 simp only[putE,get_set2,hi,false_and,if_false]
theorem r3f (cx:Cx) (env:Env) (σ:AS) (fr:Int) (hlen:env.length=51) (hcx:cx.esc= [46,47]) (f2:Env.get env 2= .int .i64 fr) (p1:0≤fr) (p2: ¬400<fr) (p3: ¬fr<0):
  Pc Try.prog how cx [2000005] 51 [14,15,16,17,18,19,20] (cr [.r, .l, .i, .r, .r, .l]) env σ (.normal) (σ) (fun env'=>Env.get env' 14= .bool false):=by
 refine pc_of fun res hr=>?_
 simp -implicitDefEqProofs [AS.get_push_at,AS.get_push_old,AS.push_len,AS.set_st_len,AS.next_st',AS.set_push_at,AS.get_set_self,AS.get_set_other,cr,Try.f7,hlen,hcx,f2,p1,p2,p3] at hr
 subst hr
 refine ⟨_,rfl,by simp[hlen],by simp[Env.get_set,hlen,f2,p1,p2,p3],fun i hi=>?_⟩
 simp only[List.mem_cons,List.not_mem_nil,or_false,not_or] at hi
 simp only[putE,get_set2,hi,false_and,if_false]
theorem r3a (cx:Cx) (env:Env) (σ:AS) (fr:Int) (hlen:env.length=51) (hcx:cx.esc= [46,47]) (f2:Env.get env 2= .int .i64 fr) (p1:fr<0) (p2: ¬0≤fr):
  Pc Try.prog how cx [2000005] 51 [14,15,16,17,18,19,20] (cr [.r, .l, .i, .r, .r, .l]) env σ (.normal) (σ) (fun env'=>Env.get env' 14= .bool true):=by
 refine pc_of fun res hr=>?_
 simp -implicitDefEqProofs [AS.get_push_at,AS.get_push_old,AS.push_len,AS.set_st_len,AS.next_st',AS.set_push_at,AS.get_set_self,AS.get_set_other,cr,Try.f7,hlen,hcx,f2,p1,p2] at hr
 subst hr
 refine ⟨_,rfl,by simp[hlen],by simp[Env.get_set,hlen,f2,p1,p2],fun i hi=>?_⟩
 simp only[List.mem_cons,List.not_mem_nil,or_false,not_or] at hi
 simp only[putE,get_set2,hi,false_and,if_false]
theorem r3b (cx:Cx) (env:Env) (σ:AS) (fr:Int) (hlen:env.length=51) (hcx:cx.esc= [46,47]) (f2:Env.get env 2= .int .i64 fr) (p1:0≤fr) (p2:400<fr) (p3: ¬fr<0):
  Pc Try.prog how cx [2000005] 51 [14,15,16,17,18,19,20] (cr [.r, .l, .i, .r, .r, .l]) env σ (.normal) (σ) (fun env'=>Env.get env' 14= .bool true):=by
 refine pc_of fun res hr=>?_
 simp -implicitDefEqProofs [AS.get_push_at,AS.get_push_old,AS.push_len,AS.set_st_len,AS.next_st',AS.set_push_at,AS.get_set_self,AS.get_set_other,cr,Try.f7,hlen,hcx,f2,p1,p2,p3] at hr
 subst hr
 refine ⟨_,rfl,by simp[hlen],by simp[Env.get_set,hlen,f2,p1,p2,p3],fun i hi=>?_⟩
 simp only[List.mem_cons,List.not_mem_nil,or_false,not_or] at hi
 simp only[putE,get_set2,hi,false_and,if_false]
theorem r4 (cx:Cx) (env:Env) (σ:AS) (hp s:List AObj) (j:Nat) (hlen:env.length=51) (hcx:cx.esc= [46,47]) (f6:Env.get env 6= .ptr (.st j) 0) (hσ:σ=⟨hp,s⟩) (hro0:cx.ro=none) (gj:(AS.mk hp s).get (.st j)=some (.cells [.int .u64 0, .int .i64 0])) (hj:cx.h≤j):
  Pc Try.prog how cx [2000005] 51 [7,21] (cr [.r, .l, .i, .r, .r, .r, .l, .l]) env σ (.normal) (AS.mk hp (s.set j (.cells [.int .u64 0, .int .i64 0]))) (fun env'=>Env.get env' 7= .int .i64 1):=by
 refine pc_of fun res hr=>?_
 simp -implicitDefEqProofs [AS.get_push_at,AS.get_push_old,AS.push_len,AS.set_st_len,AS.next_st',AS.set_push_at,AS.get_set_self,AS.get_set_other,cr,Try.f7,hlen,hcx,f6,hσ,hro0,gj,hj,AS.set,wok] at hr
 subst hr
 refine ⟨_,rfl,by simp[hlen],by simp[Env.get_set,hlen,f6,hσ,hro0,gj,hj,AS.set,wok],fun i hi=>?_⟩
 simp only[List.mem_cons,List.not_mem_nil,or_false,not_or] at hi
 simp only[putE,get_set2,hi,false_and,if_false]
noncomputable def mx_q:List Oper:=opsOf (cr [.r, .r, .l])
def mx_plan:List (Nat×List Nat):= [(1,[]),(0,[]),(0,[]),(0,[]),(1,[]),(5,[0]),(0,[]),(0,[]),(0,[]),(3,[1,1]),(4,[0]),(0,[])]
theorem mx_reg:(cr [.r, .r, .l])= .region 5 mx_q.toArray true:=by kernel_rfl
theorem mx_ok (h:Nat) (ro:Option Nat):planOkZ Try.prog (Cx.mk h ro [46,47]) mx_q mx_plan=true:=by kernel_rfl
theorem mx_lt:anyLT Try.prog mx_q=false:=by kernel_rfl
theorem mx_room (h:Nat) (ro:Option Nat):cntM Try.prog mx_q (newSt (Cx.mk h ro [46,47])) 0 mx_q.length=1:=by kernel_rfl
theorem mx (h:Nat) (ro:Option Nat) (hp s:List AObj) (env:Env) (a:Nat) (me n st br bn fr pr nx:Int) (B O:AV) (rd rn x y e:Int) (i:Nat) (hlen:env.length=51) (f0:Env.get env 0= .ptr (.hp a) 0) (f4:Env.get env 4= .ptr (.st i) 0) (hro0:ro=none) (hA: ∀s,(AS.mk hp s).get (.hp a)=some (.cells [.int .i64 me, .int .i64 n, .int .i64 st, .int .u64 br, .int .i64 bn, .int .i64 fr, .int .u8 pr,B,O, .int .i64 nx])) (gI: ∀t,(AS.mk hp (s++t)).get (.st i)=some (.cells [.int .u64 rd, .int .i64 rn])) (gI0:(AS.mk hp s).get (.st i)=some (.cells [.int .u64 rd, .int .i64 rn])) (k1: ∀s,callW Try.prog how 21 [.agg [.int .u64 rd, .int .i64 rn], .int .i64 me] ⟨hp,s⟩ none=some (.tup [.agg [.int .u64 x, .int .i64 y], .int .i64 e],⟨hp,s⟩)):
  Pc Try.prog how (Cx.mk h ro [46,47]) [2000005] 51 [8,9,22,23,24,25,26,27,28,29,30] (cr [.r, .r, .l]) env ⟨hp,s⟩ .normal ⟨hp,s++ [.cells [.int .u64 x, .int .i64 y]]⟩ (fun env'=>Env.get env' 8= .ptr (.st s.length) 0∧Env.get env' 9= .int .i64 e):=by
 refine pc_of fun res hr=>?_
 rw[mx_reg,execW_region_eq] at hr
 rw[show (mx_q.toArray).toList=mx_q from rfl,regionA_mix rfl rfl] at hr
 rw[mixA_planZ1 (mx_ok h ro) mx_lt,mx_room h ro] at hr
 simp -implicitDefEqProofs [mx_plan,mx_q,cr,Try.f7,hlen,f0,f4,hro0,hA,gI,gI0,k1,noHp,newHp,isNew,escNew,List.all_cons,List.all_nil,wok] at hr
 subst hr
 refine ⟨_,rfl,by simp[hlen],by simp[Env.get_set,hlen,f0,f4,hro0,hA,gI,gI0,k1,noHp,newHp,isNew,escNew,List.all_cons,List.all_nil,wok],fun i hi=>?_⟩
 simp only[List.mem_cons,List.not_mem_nil,or_false,not_or] at hi
 simp only[putE,get_set2,hi,false_and,if_false]
theorem r6 (cx:Cx) (env:Env) (σ:AS) (e:Int) (hlen:env.length=51) (hcx:cx.esc= [46,47]) (f9:Env.get env 9= .int .i64 e):
  Pc Try.prog how cx [2000005] 51 [31,32] (cr [.r, .r, .r, .l, .l]) env σ (.normal) (σ) (fun env'=>Env.get env' 32= .bool (!decide (e=0))):=by
 refine pc_of fun res hr=>?_
 simp -implicitDefEqProofs [AS.get_push_at,AS.get_push_old,AS.push_len,AS.set_st_len,AS.next_st',AS.set_push_at,AS.get_set_self,AS.get_set_other,cr,Try.f7,hlen,hcx,f9] at hr
 subst hr
 refine ⟨_,rfl,by simp[hlen],by simp[Env.get_set,hlen,f9],fun i hi=>?_⟩
 simp only[List.mem_cons,List.not_mem_nil,or_false,not_or] at hi
 simp only[putE,get_set2,hi,false_and,if_false]
theorem r7 (cx:Cx) (env:Env) (σ:AS) (hp s:List AObj) (j:Nat) (e:Int) (hlen:env.length=51) (hcx:cx.esc= [46,47]) (f6:Env.get env 6= .ptr (.st j) 0) (f9:Env.get env 9= .int .i64 e) (hσ:σ=⟨hp,s⟩) (hro0:cx.ro=none) (gj:(AS.mk hp s).get (.st j)=some (.cells [.int .u64 0, .int .i64 0])) (hj:cx.h≤j):
  Pc Try.prog how cx [2000005] 51 [7,33,34] (cr [.r, .r, .r, .l, .r, .l, .l]) env σ (.normal) (AS.mk hp (s.set j (.cells [.int .u64 0, .int .i64 0]))) (fun env'=>Env.get env' 7= .int .i64 e):=by
 refine pc_of fun res hr=>?_
 simp -implicitDefEqProofs [AS.get_push_at,AS.get_push_old,AS.push_len,AS.set_st_len,AS.next_st',AS.set_push_at,AS.get_set_self,AS.get_set_other,cr,Try.f7,hlen,hcx,f6,f9,hσ,hro0,gj,hj,AS.set,wok] at hr
 subst hr
 refine ⟨_,rfl,by simp[hlen],by simp[Env.get_set,hlen,f6,f9,hσ,hro0,gj,hj,AS.set,wok],fun i hi=>?_⟩
 simp only[List.mem_cons,List.not_mem_nil,or_false,not_or] at hi
 simp only[putE,get_set2,hi,false_and,if_false]
theorem r8 (cx:Cx) (env:Env) (σ:AS) (a:Nat) (me n st br bn fr pr nx:Int) (B O:AV) (hp s:List AObj) (x y f9:Int) (i:Nat) (hlen:env.length=51) (hcx:cx.esc= [46,47]) (f0:Env.get env 0= .ptr (.hp a) 0) (f2:Env.get env 2= .int .i64 f9) (f8:Env.get env 8= .ptr (.st i) 0) (hσ:σ=⟨hp,s⟩) (hro0:cx.ro=none) (hA: ∀l s,(AS.mk (hp++l) s).get (.hp a)=some (.cells [.int .i64 me, .int .i64 n, .int .i64 st, .int .u64 br, .int .i64 bn, .int .i64 fr, .int .u8 pr,B,O, .int .i64 nx])) (hA0: ∀s,(AS.mk hp s).get (.hp a)=some (.cells [.int .i64 me, .int .i64 n, .int .i64 st, .int .u64 br, .int .i64 bn, .int .i64 fr, .int .u8 pr,B,O, .int .i64 nx])) (gi: ∀hp,(AS.mk hp s).get (.st i)=some (.cells [.int .u64 x, .int .i64 y])):
  Pc Try.prog how cx [2000005] 51 [35,36,37,38,39,40,41,42,43,44,45,46,47,48,49] (cr [.r, .r, .r, .r, .l]) env σ (.normal) (AS.mk ((hp++ [AObj.map [],AObj.map []]).set a (.cells [.int .i64 me, .int .i64 n, .int .i64 1, .int .u64 x, .int .i64 y, .int .i64 f9, .int .u8 0, .map (.hp hp.length), .map (.hp (hp.length+1)), .int .i64 0])) s) (fun _=>True):=by
 refine pc_of fun res hr=>?_
 simp -implicitDefEqProofs [AS.get_push_at,AS.get_push_old,AS.push_len,AS.set_st_len,AS.next_st',AS.set_push_at,AS.get_set_self,AS.get_set_other,cr,Try.f7,hlen,hcx,f0,f2,f8,hσ,hro0,hA,hA0,gi,AS.set,wok,List.append_assoc,regionA_quietM (tails:= [2000005]) (id:=8) (m:=0) rfl rfl rfl] at hr
 subst hr
 refine ⟨_,rfl,by simp[hlen],by simp[Env.get_set,hlen,f0,f2,f8,hσ,hro0,hA,hA0,gi,AS.set,wok,List.append_assoc,regionA_quietM (tails:= [2000005]) (id:=8) (m:=0) rfl rfl rfl],fun i hi=>?_⟩
 simp only[List.mem_cons,List.not_mem_nil,or_false,not_or] at hi
 simp only[putE,get_set2,hi,false_and,if_false]
theorem r9 (cx:Cx) (env:Env) (σ:AS) (hp s:List AObj) (x y:Int) (i j:Nat) (hlen:env.length=51) (hcx:cx.esc= [46,47]) (f6:Env.get env 6= .ptr (.st j) 0) (f8:Env.get env 8= .ptr (.st i) 0) (hσ:σ=⟨hp,s⟩) (hro0:cx.ro=none) (gi:(AS.mk hp s).get (.st i)=some (.cells [.int .u64 x, .int .i64 y])) (gj:(AS.mk hp s).get (.st j)=some (.cells [.int .u64 0, .int .i64 0])) (hj:cx.h≤j):
  Pc Try.prog how cx [2000005] 51 [7,50] (cr [.r, .r, .r, .r, .r, .l]) env σ (.normal) (AS.mk hp (s.set j (.cells [.int .u64 x, .int .i64 y]))) (fun env'=>Env.get env' 7= .int .i64 0):=by
 refine pc_of fun res hr=>?_
 simp -implicitDefEqProofs [AS.get_push_at,AS.get_push_old,AS.push_len,AS.set_st_len,AS.next_st',AS.set_push_at,AS.get_set_self,AS.get_set_other,cr,Try.f7,hlen,hcx,f6,f8,hσ,hro0,gi,gj,hj,AS.set,wok] at hr
 subst hr
 refine ⟨_,rfl,by simp[hlen],by simp[Env.get_set,hlen,f6,f8,hσ,hro0,gi,gj,hj,AS.set,wok],fun i hi=>?_⟩
 simp only[List.mem_cons,List.not_mem_nil,or_false,not_or] at hi
 simp only[putE,get_set2,hi,false_and,if_false]
end
noncomputable def bodyC:Code:=(.seq (cr [.l]) (.seq (.block 0 (.seq (cr [.r, .l, .i, .l]) (.cond (.tmp 10) (.seq (cr [.r, .l, .i, .r, .l, .l]) .ret) (.seq (cr [.r, .l, .i, .r, .r, .l]) (.cond (.tmp 14) (.seq (cr [.r, .l, .i, .r, .r, .r, .l, .l]) .ret) .skip))))) (.seq (cr [.r, .r, .l]) (.seq (.seq (cr [.r, .r, .r, .l, .l]) (.cond (.tmp 32) (.seq (cr [.r, .r, .r, .l, .r, .l, .l]) .ret) .skip)) (.seq (cr [.r, .r, .r, .r, .l]) (.seq (cr [.r, .r, .r, .r, .r, .l]) .ret))))))
theorem body:Try.f7.body=some bodyC:=by kernel_rfl
theorem ok (hp s:List AObj) (a:Nat) (me n rd rn fr:Int) (p:Lv) (F:List Nat) (h:StL hp a me n p F) (h0:0≤rd∧rd≤18446744073709551615) (hme:0≤me∧me<5):
  (((fr<0∨400<fr)∧callW Try.prog how 7 [.ptr (.hp a) 0, .agg [.int .u64 rd, .int .i64 rn], .int .i64 fr] ⟨hp,s⟩ none=some (.tup [.agg [.int .u64 0, .int .i64 0], .int .i64 1],⟨hp,s⟩))∨((0≤fr∧fr≤400)∧rd=18446744073709551615∧callW Try.prog how 7 [.ptr (.hp a) 0, .agg [.int .u64 rd, .int .i64 rn], .int .i64 fr] ⟨hp,s⟩ none=some (.tup [.agg [.int .u64 0, .int .i64 0], .int .i64 9],⟨hp,s⟩))∨
   ((0≤fr∧fr≤400)∧ ¬rd=18446744073709551615∧ ∃hp' F',callW Try.prog how 7 [.ptr (.hp a) 0, .agg [.int .u64 rd, .int .i64 rn], .int .i64 fr] ⟨hp,s⟩ none=some (.tup [.agg [.int .u64 (rd+1), .int .i64 me], .int .i64 0],⟨hp',s⟩)∧StL hp' a me n (begL me rd fr) F'∧Stp hp hp' a F F')):=by
 let cx:Cx:={h:=s.length,ro:=none,esc:= [46,47]}
 have hcx:cx.esc= [46,47]:=rfl
 have hro: ∀k,cx.ro=some k→k≤cx.h:=fun k hk=>by cases hk
 obtain ⟨env,henv⟩: ∃e,e=frameA Try.f7 [.ptr (.hp a) 0, .agg [.int .u64 rd, .int .i64 rn], .int .i64 fr]:=⟨_,rfl⟩
 have hlen:env.length=51:=by rw[henv]; rfl
 have f0:Env.get env 0= .ptr (.hp a) 0:=by rw[henv]; rfl
 have f1:Env.get env 1= .agg [.int .u64 rd, .int .i64 rn]:=by rw[henv]; rfl
 have f2:Env.get env 2= .int .i64 fr:=by rw[henv]; rfl
 have ho:Outside s.length (AS.mk hp s) (AS.mk hp s):=Outside.refl (Nat.le_refl _)
 obtain ⟨B,O,hA⟩:=h.at_
 have hal:=at_lt2 hA
 obtain ⟨env1,x1a,x1b,x1c,x1d⟩:=rA cx env (AS.mk hp s) hp s rd rn hlen hcx f1 rfl rfl
 have f0:=(x1d 0 (by decide)).trans f0
 have f1:=(x1d 1 (by decide)).trans f1
 have f2:=(x1d 2 (by decide)).trans f2
 have f4:=x1c.1
 have f6:=x1c.2.1
 have f7:=x1c.2.2
 obtain ⟨env2,x2a,x2b,x2c,x2d⟩:=r1 cx env1 (AS.mk hp (s++ [AObj.cells [.int .u64 rd, .int .i64 rn],AObj.cells [.int .u64 0, .int .i64 0]])) a x1b hcx f0
 have f0:=(x2d 0 (by decide)).trans f0
 have f1:=(x2d 1 (by decide)).trans f1
 have f2:=(x2d 2 (by decide)).trans f2
 have f4:=(x2d 4 (by decide)).trans f4
 have f6:=(x2d 6 (by decide)).trans f6
 have f7:=(x2d 7 (by decide)).trans f7
 have f10:=x2c
 have ev1:=ev_tmp f10
 rcases (show fr<0∨(0≤fr∧400<fr)∨(0≤fr∧fr≤400) by omega) with q | q | q
 ·skip
  obtain ⟨env3,x3a,x3b,x3c,x3d⟩:=r3a cx env2 (AS.mk hp (s++ [AObj.cells [.int .u64 rd, .int .i64 rn],AObj.cells [.int .u64 0, .int .i64 0]])) fr x2b hcx f2 q (by omega)
  have f0:=(x3d 0 (by decide)).trans f0
  have f1:=(x3d 1 (by decide)).trans f1
  have f2:=(x3d 2 (by decide)).trans f2
  have f4:=(x3d 4 (by decide)).trans f4
  have f6:=(x3d 6 (by decide)).trans f6
  have f7:=(x3d 7 (by decide)).trans f7
  have f10:=(x3d 10 (by decide)).trans f10
  have f14:=x3c
  have ev2:=ev_tmp f14
  obtain ⟨env4,x4a,x4b,x4c,x4d⟩:=r4 cx env3 (AS.mk hp (s++ [AObj.cells [.int .u64 rd, .int .i64 rn],AObj.cells [.int .u64 0, .int .i64 0]])) hp ((s++ [AObj.cells [.int .u64 rd, .int .i64 rn],AObj.cells [.int .u64 0, .int .i64 0]])) ((s.length+1)) x3b hcx f6 rfl rfl (by simp[AS.get]) (by show s.length≤_; omega)
  have f0:=(x4d 0 (by decide)).trans f0
  have f1:=(x4d 1 (by decide)).trans f1
  have f2:=(x4d 2 (by decide)).trans f2
  have f4:=(x4d 4 (by decide)).trans f4
  have f6:=(x4d 6 (by decide)).trans f6
  have f10:=(x4d 10 (by decide)).trans f10
  have f14:=(x4d 14 (by decide)).trans f14
  have f7:=x4c
  exact .inl ⟨by omega,call_of (fl:={esc:= [46,47],tails:= [2000005]}) (fn:=Try.f7) (c:=bodyC) (env:=env) (e:=(.ret,(env4,AS.mk hp ((s++ [AObj.cells [.int .u64 rd, .int .i64 rn],AObj.cells [.int .u64 0, .int .i64 0]]).set (s.length+1) (.cells [.int .u64 0, .int .i64 0]))))) rfl Try.func7 body henv (by unfold bodyC; exact (execW_seq_of x1a (execW_seq_ret (block_exit (execW_seq_of x2a (execW_cond_f ev1 (execW_seq_of x3a (execW_cond_t ev2 (execW_seq_of x4a (by rfl)))))) (by simp))))) ((fin_two (w:= .tup [.agg [.int .u64 0, .int .i64 0], .int .i64 1]) (.inl rfl) rfl (v:= .agg [.int .u64 0, .int .i64 0]) (v':= .int .i64 1) (by simp[Try.f7,resA,f6,f7,loadA,AS.get,partA,aggA,isAggD,AV.cells]) (by simp[AV.back,AVs.back]) (by simp[AV.inb,AVs.inb])).trans (by simp))⟩
 ·skip
  obtain ⟨env3,x3a,x3b,x3c,x3d⟩:=r3b cx env2 (AS.mk hp (s++ [AObj.cells [.int .u64 rd, .int .i64 rn],AObj.cells [.int .u64 0, .int .i64 0]])) fr x2b hcx f2 q.1 q.2 (by omega)
  have f0:=(x3d 0 (by decide)).trans f0
  have f1:=(x3d 1 (by decide)).trans f1
  have f2:=(x3d 2 (by decide)).trans f2
  have f4:=(x3d 4 (by decide)).trans f4
  have f6:=(x3d 6 (by decide)).trans f6
  have f7:=(x3d 7 (by decide)).trans f7
  have f10:=(x3d 10 (by decide)).trans f10
  have f14:=x3c
  have ev2:=ev_tmp f14
  obtain ⟨env4,x4a,x4b,x4c,x4d⟩:=r4 cx env3 (AS.mk hp (s++ [AObj.cells [.int .u64 rd, .int .i64 rn],AObj.cells [.int .u64 0, .int .i64 0]])) hp ((s++ [AObj.cells [.int .u64 rd, .int .i64 rn],AObj.cells [.int .u64 0, .int .i64 0]])) ((s.length+1)) x3b hcx f6 rfl rfl (by simp[AS.get]) (by show s.length≤_; omega)
  have f0:=(x4d 0 (by decide)).trans f0
  have f1:=(x4d 1 (by decide)).trans f1
  have f2:=(x4d 2 (by decide)).trans f2
  have f4:=(x4d 4 (by decide)).trans f4
  have f6:=(x4d 6 (by decide)).trans f6
  have f10:=(x4d 10 (by decide)).trans f10
  have f14:=(x4d 14 (by decide)).trans f14
  have f7:=x4c
  exact .inl ⟨by omega,call_of (fl:={esc:= [46,47],tails:= [2000005]}) (fn:=Try.f7) (c:=bodyC) (env:=env) (e:=(.ret,(env4,AS.mk hp ((s++ [AObj.cells [.int .u64 rd, .int .i64 rn],AObj.cells [.int .u64 0, .int .i64 0]]).set (s.length+1) (.cells [.int .u64 0, .int .i64 0]))))) rfl Try.func7 body henv (by unfold bodyC; exact (execW_seq_of x1a (execW_seq_ret (block_exit (execW_seq_of x2a (execW_cond_f ev1 (execW_seq_of x3a (execW_cond_t ev2 (execW_seq_of x4a (by rfl)))))) (by simp))))) ((fin_two (w:= .tup [.agg [.int .u64 0, .int .i64 0], .int .i64 1]) (.inl rfl) rfl (v:= .agg [.int .u64 0, .int .i64 0]) (v':= .int .i64 1) (by simp[Try.f7,resA,f6,f7,loadA,AS.get,partA,aggA,isAggD,AV.cells]) (by simp[AV.back,AVs.back]) (by simp[AV.inb,AVs.inb])).trans (by simp))⟩
 ·skip
  obtain ⟨env3,x3a,x3b,x3c,x3d⟩:=r3f cx env2 (AS.mk hp (s++ [AObj.cells [.int .u64 rd, .int .i64 rn],AObj.cells [.int .u64 0, .int .i64 0]])) fr x2b hcx f2 q.1 (by omega) (by omega)
  have f0:=(x3d 0 (by decide)).trans f0
  have f1:=(x3d 1 (by decide)).trans f1
  have f2:=(x3d 2 (by decide)).trans f2
  have f4:=(x3d 4 (by decide)).trans f4
  have f6:=(x3d 6 (by decide)).trans f6
  have f7:=(x3d 7 (by decide)).trans f7
  have f10:=(x3d 10 (by decide)).trans f10
  have f14:=x3c
  have ev2:=ev_tmp f14
  have hk:=fun s=>bnext_c hp s none rd rn me (fun k hk=>by cases hk) h0 hme
  by_cases q2:rd=18446744073709551615
  ·skip
   simp only[if_pos q2] at hk
   obtain ⟨env4,x4a,x4b,x4c,x4d⟩:=mx s.length none hp ((s++ [AObj.cells [.int .u64 rd, .int .i64 rn],AObj.cells [.int .u64 0, .int .i64 0]])) env3 a me n p.st p.br p.bn p.fr p.pr p.nx B O rd rn 0 0 9 s.length x3b f0 f4 rfl (fun _=>hA) (fun t=>get_app (by simp)) (by simp[AS.get]) hk
   have f0:=(x4d 0 (by decide)).trans f0
   have f1:=(x4d 1 (by decide)).trans f1
   have f2:=(x4d 2 (by decide)).trans f2
   have f4:=(x4d 4 (by decide)).trans f4
   have f6:=(x4d 6 (by decide)).trans f6
   have f7:=(x4d 7 (by decide)).trans f7
   have f10:=(x4d 10 (by decide)).trans f10
   have f14:=(x4d 14 (by decide)).trans f14
   have f8:=x4c.1
   have f9:=x4c.2
   obtain ⟨env5,x5a,x5b,x5c,x5d⟩:=r6 cx env4 (AS.mk hp ((s++ [AObj.cells [.int .u64 rd, .int .i64 rn],AObj.cells [.int .u64 0, .int .i64 0]])++ [AObj.cells [.int .u64 0, .int .i64 0]])) 9 x4b hcx f9
   have f0:=(x5d 0 (by decide)).trans f0
   have f1:=(x5d 1 (by decide)).trans f1
   have f2:=(x5d 2 (by decide)).trans f2
   have f4:=(x5d 4 (by decide)).trans f4
   have f6:=(x5d 6 (by decide)).trans f6
   have f7:=(x5d 7 (by decide)).trans f7
   have f8:=(x5d 8 (by decide)).trans f8
   have f9:=(x5d 9 (by decide)).trans f9
   have f10:=(x5d 10 (by decide)).trans f10
   have f14:=(x5d 14 (by decide)).trans f14
   have f32:=x5c
   have ev3:=ev_tmp f32
   obtain ⟨env6,x6a,x6b,x6c,x6d⟩:=r7 cx env5 (AS.mk hp ((s++ [AObj.cells [.int .u64 rd, .int .i64 rn],AObj.cells [.int .u64 0, .int .i64 0]])++ [AObj.cells [.int .u64 0, .int .i64 0]])) hp (((s++ [AObj.cells [.int .u64 rd, .int .i64 rn],AObj.cells [.int .u64 0, .int .i64 0]])++ [AObj.cells [.int .u64 0, .int .i64 0]])) ((s.length+1)) 9 x5b hcx f6 f9 rfl rfl (by simp[AS.get]) (by show s.length≤_; omega)
   have f0:=(x6d 0 (by decide)).trans f0
   have f1:=(x6d 1 (by decide)).trans f1
   have f2:=(x6d 2 (by decide)).trans f2
   have f4:=(x6d 4 (by decide)).trans f4
   have f6:=(x6d 6 (by decide)).trans f6
   have f8:=(x6d 8 (by decide)).trans f8
   have f9:=(x6d 9 (by decide)).trans f9
   have f10:=(x6d 10 (by decide)).trans f10
   have f14:=(x6d 14 (by decide)).trans f14
   have f32:=(x6d 32 (by decide)).trans f32
   have f7:=x6c
   exact .inr (.inl ⟨q,q2,call_of (fl:={esc:= [46,47],tails:= [2000005]}) (fn:=Try.f7) (c:=bodyC) (env:=env) (e:=(.ret,(env6,AS.mk hp (((s++ [AObj.cells [.int .u64 rd, .int .i64 rn],AObj.cells [.int .u64 0, .int .i64 0]])++ [AObj.cells [.int .u64 0, .int .i64 0]]).set (s.length+1) (.cells [.int .u64 0, .int .i64 0]))))) rfl Try.func7 body henv (by unfold bodyC; exact (execW_seq_of x1a (execW_seq_of (execW_block_of (execW_seq_of x2a (execW_cond_f ev1 (execW_seq_of x3a (execW_cond_f ev2 (by rfl)))))) (execW_seq_of x4a (execW_seq_ret (execW_seq_of x5a (execW_cond_t ev3 (execW_seq_of x6a (by rfl))))))))) ((fin_two (w:= .tup [.agg [.int .u64 0, .int .i64 0], .int .i64 9]) (.inl rfl) rfl (v:= .agg [.int .u64 0, .int .i64 0]) (v':= .int .i64 9) (by simp[Try.f7,resA,f6,f7,loadA,AS.get,partA,aggA,isAggD,AV.cells]) (by simp[AV.back,AVs.back]) (by simp[AV.inb,AVs.inb])).trans (by simp))⟩)
  ·skip
   simp only[if_neg q2] at hk
   obtain ⟨env4,x4a,x4b,x4c,x4d⟩:=mx s.length none hp ((s++ [AObj.cells [.int .u64 rd, .int .i64 rn],AObj.cells [.int .u64 0, .int .i64 0]])) env3 a me n p.st p.br p.bn p.fr p.pr p.nx B O rd rn ((rd+1)) me 0 s.length x3b f0 f4 rfl (fun _=>hA) (fun t=>get_app (by simp)) (by simp[AS.get]) hk
   have f0:=(x4d 0 (by decide)).trans f0
   have f1:=(x4d 1 (by decide)).trans f1
   have f2:=(x4d 2 (by decide)).trans f2
   have f4:=(x4d 4 (by decide)).trans f4
   have f6:=(x4d 6 (by decide)).trans f6
   have f7:=(x4d 7 (by decide)).trans f7
   have f10:=(x4d 10 (by decide)).trans f10
   have f14:=(x4d 14 (by decide)).trans f14
   have f8:=x4c.1
   have f9:=x4c.2
   obtain ⟨env5,x5a,x5b,x5c,x5d⟩:=r6 cx env4 (AS.mk hp ((s++ [AObj.cells [.int .u64 rd, .int .i64 rn],AObj.cells [.int .u64 0, .int .i64 0]])++ [AObj.cells [.int .u64 (rd+1), .int .i64 me]])) 0 x4b hcx f9
   have f0:=(x5d 0 (by decide)).trans f0
   have f1:=(x5d 1 (by decide)).trans f1
   have f2:=(x5d 2 (by decide)).trans f2
   have f4:=(x5d 4 (by decide)).trans f4
   have f6:=(x5d 6 (by decide)).trans f6
   have f7:=(x5d 7 (by decide)).trans f7
   have f8:=(x5d 8 (by decide)).trans f8
   have f9:=(x5d 9 (by decide)).trans f9
   have f10:=(x5d 10 (by decide)).trans f10
   have f14:=(x5d 14 (by decide)).trans f14
   have f32:=x5c
   have ev3:=ev_tmp f32
   obtain ⟨env6,x6a,x6b,x6c,x6d⟩:=r8 cx env5 (AS.mk hp ((s++ [AObj.cells [.int .u64 rd, .int .i64 rn],AObj.cells [.int .u64 0, .int .i64 0]])++ [AObj.cells [.int .u64 (rd+1), .int .i64 me]])) a me n p.st p.br p.bn p.fr p.pr p.nx B O hp (((s++ [AObj.cells [.int .u64 rd, .int .i64 rn],AObj.cells [.int .u64 0, .int .i64 0]])++ [AObj.cells [.int .u64 (rd+1), .int .i64 me]])) ((rd+1)) me fr ((s++ [AObj.cells [.int .u64 rd, .int .i64 rn],AObj.cells [.int .u64 0, .int .i64 0]]).length) x5b hcx f0 f2 f8 rfl rfl (fun l s=>(show (hp++l)[a]?=_ by rw[List.getElem?_append_left hal]; exact hA)) (fun _=>hA) (fun _=>by simp[AS.get])
   have f0:=(x6d 0 (by decide)).trans f0
   have f1:=(x6d 1 (by decide)).trans f1
   have f2:=(x6d 2 (by decide)).trans f2
   have f4:=(x6d 4 (by decide)).trans f4
   have f6:=(x6d 6 (by decide)).trans f6
   have f7:=(x6d 7 (by decide)).trans f7
   have f8:=(x6d 8 (by decide)).trans f8
   have f9:=(x6d 9 (by decide)).trans f9
   have f10:=(x6d 10 (by decide)).trans f10
   have f14:=(x6d 14 (by decide)).trans f14
   have f32:=(x6d 32 (by decide)).trans f32
   obtain ⟨env7,x7a,x7b,x7c,x7d⟩:=r9 cx env6 (AS.mk ((hp++ [AObj.map [],AObj.map []]).set a (.cells (cellsL me n (begL me rd fr) (.map (.hp hp.length)) (.map (.hp (hp.length+1)))))) ((s++ [AObj.cells [.int .u64 rd, .int .i64 rn],AObj.cells [.int .u64 0, .int .i64 0]])++ [AObj.cells [.int .u64 (rd+1), .int .i64 me]])) (((hp++ [AObj.map [],AObj.map []]).set a (.cells (cellsL me n (begL me rd fr) (.map (.hp hp.length)) (.map (.hp (hp.length+1))))))) (((s++ [AObj.cells [.int .u64 rd, .int .i64 rn],AObj.cells [.int .u64 0, .int .i64 0]])++ [AObj.cells [.int .u64 (rd+1), .int .i64 me]])) ((rd+1)) me ((s++ [AObj.cells [.int .u64 rd, .int .i64 rn],AObj.cells [.int .u64 0, .int .i64 0]]).length) ((s.length+1)) x6b hcx f6 f8 rfl rfl (by simp[AS.get]) (by simp[AS.get]) (by show s.length≤_; omega)
   have f0:=(x7d 0 (by decide)).trans f0
   have f1:=(x7d 1 (by decide)).trans f1
   have f2:=(x7d 2 (by decide)).trans f2
   have f4:=(x7d 4 (by decide)).trans f4
   have f6:=(x7d 6 (by decide)).trans f6
   have f8:=(x7d 8 (by decide)).trans f8
   have f9:=(x7d 9 (by decide)).trans f9
   have f10:=(x7d 10 (by decide)).trans f10
   have f14:=(x7d 14 (by decide)).trans f14
   have f32:=(x7d 32 (by decide)).trans f32
   have f7:=x7c
   refine .inr (.inr ⟨q,q2,((hp++ [AObj.map [],AObj.map []]).set a (.cells (cellsL me n (begL me rd fr) (.map (.hp hp.length)) (.map (.hp (hp.length+1)))))),[hp.length,hp.length+1],call_of (fl:={esc:= [46,47],tails:= [2000005]}) (fn:=Try.f7) (c:=bodyC) (env:=env) (e:=(.ret,(env7,AS.mk ((hp++ [AObj.map [],AObj.map []]).set a (.cells (cellsL me n (begL me rd fr) (.map (.hp hp.length)) (.map (.hp (hp.length+1)))))) (((s++ [AObj.cells [.int .u64 rd, .int .i64 rn],AObj.cells [.int .u64 0, .int .i64 0]])++ [AObj.cells [.int .u64 (rd+1), .int .i64 me]]).set (s.length+1) (.cells [.int .u64 (rd+1), .int .i64 me]))))) rfl Try.func7 body henv (by unfold bodyC; exact (execW_seq_of x1a (execW_seq_of (execW_block_of (execW_seq_of x2a (execW_cond_f ev1 (execW_seq_of x3a (execW_cond_f ev2 (by rfl)))))) (execW_seq_of x4a (execW_seq_of (execW_seq_of x5a (execW_cond_f ev3 (by rfl))) (execW_seq_of x6a (execW_seq_of x7a (by rfl)))))))) ((fin_two (w:= .tup [(.agg [.int .u64 (rd+1), .int .i64 me]), .int .i64 0]) (.inl rfl) rfl (v:=(.agg [.int .u64 (rd+1), .int .i64 me])) (v':= .int .i64 0) (by simp[Try.f7,resA,f6,f7,loadA,AS.get,partA,aggA,isAggD,AV.cells]) (by simp[AV.back,AVs.back]) (by simp[AV.inb,AVs.inb])).trans (by simp)), .inr ⟨by simp[begL],hp.length,hp.length+1,[],?_,rfl⟩,?_,?_⟩)
   ·exact {oA:=List.getElem?_set_self (by simp; omega),oB:=by rw[List.getElem?_set_ne (by omega)]; simp[begL],oO:=by rw[List.getElem?_set_ne (by omega)]; simp,op:=rfl,oP:=fun e he=>(by cases he),nd:=by simp,na:=by simp; omega}
   ·exact (Kp.app hp _ _).trans (Kp.set _ a _ _ (List.mem_cons_self ..))
   ·intro i hi
    simp only[List.mem_cons,List.not_mem_nil,or_false] at hi
    omega
end LBeg
