/- Walk 16. -/

import Derived.Test.YtidfkjpcpgeilaaF15
open Go Go.Abs Go.Proofs
set_option maxRecDepth 100000
set_option maxHeartbeats 4000000
set_option linter.unusedSimpArgs false
set_option linter.unusedVariables false
open Ldr
structure OpV where
 kd:Int
 rd:Int
 rn:Int
 nn:Int
 node:Int
 X:AV
 vs:List Vt
 val:ByteArray
def encOp (o:OpV):AV:= .agg [.int .i64 o.kd, .int .u64 o.rd, .int .i64 o.rn, .int .i64 o.nn, .int .i64 o.node,o.X, .str o.val]
structure OpOk (o:OpV):Prop where
 x:Plain o.X
 rd: ∀σ,Rd Try.prog σ 22 84 o.X (o.vs.map encVt)
 len:o.vs.length≤9223372036854775807
 u:0≤o.rd∧o.rd≤18446744073709551615
def rowV (br bn:Int) (e:Int×ByteArray):Vt:=⟨e.1,br,bn,e.2⟩
theorem opV_eq {hp:List AObj} {a:Nat} {me n:Int} {p:Lv} {r:Rv} {F:List Nat} (h:StL hp a me n p F) (hR:Rel n p r):LOpen.opV p=(r.op.map (rowV r.br r.bn)).map encVt:=by
 unfold LOpen.opV
 by_cases q:p.st=2
 ·rw[if_pos q,←hR.op,List.map_map,List.map_map,←hR.br,←hR.bn]
  rfl
 ·rw[if_neg q]
  have:p.op= []:=by
   rcases hR.stv with h0 | h0 | h0
   ·rcases h with ⟨rfl,_,_⟩ | ⟨h1,_⟩
    ·rfl
    ·exact absurd h0 h1
   ·exact (hR.ask h0).2.2.2.1
   ·exact absurd h0 q
  rw[←hR.op,this]
  rfl
theorem Two.keep {hp hp':List AObj} {a b:Nat} {me n:Int} {p:Lv} {r:Rv} (h:Two hp a b me n p r) (k:Kp hp hp' []):Two hp' a b me n p r:=by
 obtain ⟨F,G,h1,h2,h3⟩:=h
 exact ⟨F,G,h1.keep k (fun i _=>by simp),h2.keep k (fun i _=>by simp),h3⟩
namespace LPlays
noncomputable def cr (p:List Dir):Code:=sub p (bodyOf Try.f4)
section
attribute [local simp] ofV ofCell ofCells seqA_nil seqA_cons seqVK_eq seqEK_eq wantedA yieldedA isVal effA ev evs evps putE optsA optsOk valA fieldAddrA fieldA loadA partA aggA isAggD buildA placesA fillA lay storeA AV.withCells buildSliceA elemsA rowParts fzL promL okE isSrc bytesOk pushA cxOf lenA binA intBinA strBinA unA indexAddrA eqA AVs.inb AV.inb Loc.inb calleeA opsOf sub bodyOf Env.get_set quietA_nil quietA_cons quietK_none quietK_some qstep newA isNew escNew boxOk newLoc flat rowPartsQ quietN quietOp isBS List.takeWhile finishA_eq finK_ret finK_normal retK backK resA oneA AV.back AVs.back execW_seq_eq seqK_normal seqK_ret seqK_exit execW_cond_eq condK_true condK_false execW_block_eq blockK_exit blockK_normal blockK_ret execW_region_eq regK_eq execW_skip execW_exit execW_ret regionA_plain regionA_quiet0 tailK_eq nilCheckA guardOk isConst lookupA keyFits mapUpdateA beqI bneI mixZ_nil mixZ_cons mixKZ_eq tKZ_pre tKZ_eq tK_pre tK_eq vK_eq resv_eq stepZ_0 stepZ_1n stepZ_1s stepZ_2 stepZ_3 stepZ_4 stepZ_5 cutCall newZ tchkL agreeB Op.operands sameO truncM beq_bool beq_int beq_str beq_nilp beq_ptr beq_eptr beq_nils beq_row beq_nilm beq_map beq_agg beq_sl beqs_nil beqs_cons
theorem rA (cx:Cx) (env:Env) (σ:AS) (hlen:env.length=123) (hcx:cx.esc= []):
  Pc Try.prog how cx [2000006] 123 [6] (cr [.l]) env σ (.normal) (σ) (fun env'=>Env.get env' 6= .bool false):=by
 refine pc_of fun res hr=>?_
 simp -implicitDefEqProofs [AS.get_push_at,AS.get_push_old,AS.push_len,AS.set_st_len,AS.next_st',AS.set_push_at,AS.get_set_self,AS.get_set_other,cr,Try.f4,hlen,hcx] at hr
 subst hr
 refine ⟨_,rfl,by simp[hlen],by simp[Env.get_set,hlen],fun i hi=>?_⟩
 simp only[List.mem_cons,List.not_mem_nil,or_false,not_or] at hi
 simp only[putE,get_set2,hi,false_and,if_false]
theorem rB (cx:Cx) (env:Env) (σ:AS) (me n:Int) (a b:Nat) (hp1 hp2:List AObj) (hp s:List AObj) (hlen:env.length=123) (hcx:cx.esc= []) (f0:Env.get env 0= .int .i64 me) (f1:Env.get env 1= .int .i64 n) (hσ:σ=⟨hp,s⟩) (hro0:cx.ro=none) (k1:callW Try.prog how 6 [.int .i64 me, .int .i64 n] ⟨hp,s⟩ none=some (.ptr (.hp a) 0,⟨hp1,s⟩)) (k2:callW Try.prog how 14 [.int .i64 me, .int .i64 n] ⟨hp1,s⟩ none=some (.ptr (.hp b) 0,⟨hp2,s⟩)):
  Pc Try.prog how cx [2000006] 123 [7,8,14,15,16,17,18,19] (cr [.r, .l]) env σ (.normal) (AS.mk hp2 s) (fun env'=>Env.get env' 7= .ptr (.hp a) 0∧Env.get env' 8= .ptr (.hp b) 0):=by
 refine pc_of fun res hr=>?_
 simp -implicitDefEqProofs [AS.get_push_at,AS.get_push_old,AS.push_len,AS.set_st_len,AS.next_st',AS.set_push_at,AS.get_set_self,AS.get_set_other,cr,Try.f4,hlen,hcx,f0,f1,hσ,hro0,k1,k2] at hr
 subst hr
 refine ⟨_,rfl,by simp[hlen],by simp[Env.get_set,hlen,f0,f1,hσ,hro0,k1,k2],fun i hi=>?_⟩
 simp only[List.mem_cons,List.not_mem_nil,or_false,not_or] at hi
 simp only[putE,get_set2,hi,false_and,if_false]
theorem rC (cx:Cx) (env:Env) (σ:AS) (Z:AV) (n0:Nat) (hlen:env.length=123) (hcx:cx.esc= []) (f2:Env.get env 2=Z) (hl:lenA Try.prog σ 51 Z=some n0):
  Pc Try.prog how cx [2000006] 123 [20,21,22] (cr [.r, .r, .l, .l]) env σ (.normal) (σ) (fun env'=>Env.get env' 20=Z∧Env.get env' 21= .int .i64 (n0:Int)∧Env.get env' 22= .int .i64 0):=by
 refine pc_of fun res hr=>?_
 simp -implicitDefEqProofs [-lenA,AS.get_push_at,AS.get_push_old,AS.push_len,AS.set_st_len,AS.next_st',AS.set_push_at,AS.get_set_self,AS.get_set_other,cr,Try.f4,hlen,hcx,f2,hl] at hr
 subst hr
 refine ⟨_,rfl,by simp[hlen],by simp[Env.get_set,hlen,f2,hl],fun i hi=>?_⟩
 simp only[List.mem_cons,List.not_mem_nil,or_false,not_or] at hi
 simp only[putE,get_set2,hi,false_and,if_false]
theorem rE (cx:Cx) (env:Env) (σ:AS) (k:Nat) (Z pp:AV) (kd rd rn nn node:Int) (X:AV) (val:ByteArray) (hp s:List AObj) (hlen:env.length=123) (hcx:cx.esc= []) (f20:Env.get env 20=Z) (f22:Env.get env 22= .int .i64 (k:Int)) (hX:Plain X) (hσ:σ=⟨hp,s⟩) (hro0:cx.ro=none) (hh:cx.h≤s.length) (hia:indexAddrA Try.prog ⟨hp,s⟩ 51 Z (.int .i64 (k:Int))=some pp) (hpa:loadA Try.prog ⟨hp,s⟩ 54 pp=some (.agg [.int .i64 kd, .int .u64 rd, .int .i64 rn, .int .i64 nn, .int .i64 node,X, .str val])):
  Pc Try.prog how cx [2000006] 123 [9,10,24,25,26] (cr [.r, .r, .l, .r, .i, .i, .r, .r, .l, .i, .l]) env σ (.normal) (AS.mk hp (s++ [.cells [.int .i64 kd, .int .u64 rd, .int .i64 rn, .int .i64 nn, .int .i64 node,X, .str val]])) (fun env'=>Env.get env' 9= .int .i64 (k:Int)∧Env.get env' 10= .ptr (.st s.length) 0):=by
 refine pc_of fun res hr=>?_
 simp -implicitDefEqProofs [-indexAddrA,-loadA,AS.get_push_at,AS.get_push_old,AS.push_len,AS.set_st_len,AS.next_st',AS.set_push_at,AS.get_set_self,AS.get_set_other,cr,Try.f4,hlen,hcx,f20,f22,hX.one,hX.inb,hX.row,hX.cells,hσ,hro0,hh,hia,hpa,wok] at hr
 subst hr
 refine ⟨_,rfl,by simp[hlen],by simp[Env.get_set,hlen,f20,f22,hX.one,hX.inb,hX.row,hX.cells,hσ,hro0,hh,hia,hpa,wok],fun i hi=>?_⟩
 simp only[List.mem_cons,List.not_mem_nil,or_false,not_or] at hi
 simp only[putE,get_set2,hi,false_and,if_false]
theorem r5 (cx:Cx) (env:Env) (σ:AS) (k:Nat) (hlen:env.length=123) (hcx:cx.esc= []) (f9:Env.get env 9= .int .i64 (k:Int)):
  Pc Try.prog how cx [2000006] 123 [27,28] (cr [.r, .r, .l, .r, .i, .i, .r, .r, .l, .i, .r, .l, .l]) env σ (.normal) (σ) (fun env'=>Env.get env' 28= .bool (decide (30≤(k:Int)))):=by
 refine pc_of fun res hr=>?_
 simp -implicitDefEqProofs [AS.get_push_at,AS.get_push_old,AS.push_len,AS.set_st_len,AS.next_st',AS.set_push_at,AS.get_set_self,AS.get_set_other,cr,Try.f4,hlen,hcx,f9] at hr
 subst hr
 refine ⟨_,rfl,by simp[hlen],by simp[Env.get_set,hlen,f9],fun i hi=>?_⟩
 simp only[List.mem_cons,List.not_mem_nil,or_false,not_or] at hi
 simp only[putE,get_set2,hi,false_and,if_false]
noncomputable def m6a_q:List Oper:=opsOf (cr [.r, .r, .l, .r, .i, .i, .r, .r, .l, .i, .r, .r, .l, .l])
def m6a_plan:List (Nat×List Nat):= [(0,[]),(0,[]),(2,[]),(4,[0]),(0,[]),(0,[]),(0,[]),(4,[0,11]),(0,[]),(0,[]),(0,[]),(1,[]),(0,[]),(0,[]),(0,[]),(0,[]),(4,[0,21]),(4,[0,21]),(0,[]),(0,[]),(0,[]),(1,[]),(0,[]),(0,[]),(0,[]),(0,[]),(0,[]),(0,[]),(2,[]),(0,[]),(0,[]),(0,[]),(4,[0,36]),(0,[]),(0,[]),(0,[]),(1,[]),(0,[]),(0,[]),(0,[])]
theorem m6a_reg:(cr [.r, .r, .l, .r, .i, .i, .r, .r, .l, .i, .r, .r, .l, .l])= .region 6 m6a_q.toArray true:=by kernel_rfl
theorem m6a_ok (h:Nat) (ro:Option Nat):planOkZ Try.prog (Cx.mk h ro []) m6a_q m6a_plan=true:=by kernel_rfl
theorem m6a_lt:anyLT Try.prog m6a_q=true:=by kernel_rfl
theorem m6a_room (h:Nat) (ro:Option Nat):cntM Try.prog m6a_q (newSt (Cx.mk h ro [])) 0 m6a_q.length=0:=by kernel_rfl
theorem m6a (h:Nat) (ro:Option Nat) (hp s:List AObj) (env:Env) (kd rd rn nn node:Int) (X:AV) (val:ByteArray) (a b i:Nat) (me n st br bn fr nx:Int) (XP XA XO:AV) (w:Int) (hp1:List AObj) (hlen:env.length=123) (f7:Env.get env 7= .ptr (.hp a) 0) (f8:Env.get env 8= .ptr (.hp b) 0) (f10:Env.get env 10= .ptr (.st i) 0) (hX:Plain X) (hX1:XP.one=true) (hA1:XA.one=true) (hO1:XO.one=true) (hro0:ro=none) (gI0:(AS.mk hp s).get (.st i)=some (.cells [.int .i64 kd, .int .u64 rd, .int .i64 rn, .int .i64 nn, .int .i64 node,X, .str val])) (k1:callW Try.prog how 15 [.ptr (.hp a) 0, .ptr (.hp b) 0, .agg [.int .i64 kd, .int .u64 rd, .int .i64 rn, .int .i64 nn, .int .i64 node,X, .str val]] ⟨hp,s⟩ none=some (.bool true,⟨hp1,s⟩)) (k2:callW Try.prog how 16 [.ptr (.hp a) 0] ⟨hp1,s⟩ none=some (.int .i64 st,⟨hp1,s⟩)) (k3:callW Try.prog how 18 [.ptr (.hp a) 0] ⟨hp1,s⟩ none=some (.agg [.int .u64 br, .int .i64 bn],⟨hp1,s⟩)) (k4:callW Try.prog how 17 [.agg [.int .u64 br, .int .i64 bn]] ⟨hp1,s⟩ none=some (.agg [.int .u64 br, .int .i64 bn],⟨hp1,s⟩)) (k5:callW Try.prog how 13 [.ptr (.hp a) 0] ⟨hp1,s⟩ none=some (.int .i64 nx,⟨hp1,s⟩)) (q:st=2) (hB:(AS.mk hp1 s).get (.hp b)=some (.cells [.int .i64 me, .int .i64 n, .int .i64 st, .int .u64 br, .int .i64 bn, .int .i64 fr,XP,XA,XO, .int .i64 nx])) (hBt:(AS.mk (hp1.take hp.length) s).get (.hp b)=some (.cells [.int .i64 me, .int .i64 n, .int .i64 st, .int .u64 br, .int .i64 bn, .int .i64 fr,XP,XA,XO, .int .i64 nx])) (hle:hp.length≤hp1.length):
  Pc Try.prog how (Cx.mk h ro []) [2000006] 123 [29,30,31,32,33,34,35,36,37,38,39,40,41,42,43,44,45,46,47,48,49,50,51,52,53,54,55,56,57,58,59,60,61,62,63,64,65,66,67,68] (cr [.r, .r, .l, .r, .i, .i, .r, .r, .l, .i, .r, .r, .l, .l]) env ⟨hp,s⟩ .normal ⟨hp1,s⟩ (fun env'=>Env.get env' 68= .bool false):=by
 refine pc_of fun res hr=>?_
 rw[m6a_reg,execW_region_eq] at hr
 rw[show (m6a_q.toArray).toList=m6a_q from rfl,regionA_mix rfl rfl] at hr
 generalize h1:mixZ Try.prog (Cx.mk h ro []) (callW Try.prog how) ⟨hp,s⟩ m6a_q true none (m6a_q.zip m6a_plan) env (resv (cntM Try.prog m6a_q (newSt (Cx.mk h ro [])) 0 m6a_q.length) ⟨hp,s⟩)=r1 at*
 have h1':=h1
 rw[m6a_room h ro] at h1'
 simp -implicitDefEqProofs [m6a_plan,-eqA,m6a_q,cr,Try.f4,hlen,f7,f8,f10,hX.one,hX.inb,hX.row,hX.cells,hX1,hA1,hO1,hro0,gI0,k1,k2,k3,k4,k5,q,hB,hBt,hle,gd37,eqB37] at h1'
 subst h1'
 rw[mixA_planZ2 (m6a_ok h ro) m6a_lt h1,m6a_room h ro] at hr
 simp -implicitDefEqProofs [m6a_plan,-eqA,m6a_q,cr,Try.f4,hlen,f7,f8,f10,hX.one,hX.inb,hX.row,hX.cells,hX1,hA1,hO1,hro0,gI0,k1,k2,k3,k4,k5,q,hB,hBt,hle,gd37,eqB37] at hr
 subst hr
 refine ⟨_,rfl,by simp[hlen],by simp[Env.get_set,hlen,f7,f8,f10,hX.one,hX.inb,hX.row,hX.cells,hX1,hA1,hO1,hro0,gI0,k1,k2,k3,k4,k5,q,hB,hBt,hle,gd37,eqB37],fun i hi=>?_⟩
 simp only[List.mem_cons,List.not_mem_nil,or_false,not_or] at hi
 simp only[putE,get_set2,hi,false_and,if_false]
noncomputable def m6b_q:List Oper:=opsOf (cr [.r, .r, .l, .r, .i, .i, .r, .r, .l, .i, .r, .r, .l, .l])
def m6b_plan:List (Nat×List Nat):= [(0,[]),(0,[]),(2,[]),(4,[0]),(0,[]),(0,[]),(0,[]),(4,[0,11]),(0,[]),(0,[]),(0,[]),(1,[]),(0,[]),(0,[]),(0,[]),(0,[]),(4,[0,21]),(4,[0,21]),(0,[]),(0,[]),(0,[]),(1,[]),(0,[]),(0,[]),(0,[]),(0,[]),(0,[]),(0,[]),(2,[]),(0,[]),(0,[]),(0,[]),(4,[0,36]),(0,[]),(0,[]),(0,[]),(1,[]),(0,[]),(0,[]),(0,[])]
theorem m6b_reg:(cr [.r, .r, .l, .r, .i, .i, .r, .r, .l, .i, .r, .r, .l, .l])= .region 6 m6b_q.toArray true:=by kernel_rfl
theorem m6b_ok (h:Nat) (ro:Option Nat):planOkZ Try.prog (Cx.mk h ro []) m6b_q m6b_plan=true:=by kernel_rfl
theorem m6b_lt:anyLT Try.prog m6b_q=true:=by kernel_rfl
theorem m6b_room (h:Nat) (ro:Option Nat):cntM Try.prog m6b_q (newSt (Cx.mk h ro [])) 0 m6b_q.length=0:=by kernel_rfl
theorem m6b (h:Nat) (ro:Option Nat) (hp s:List AObj) (env:Env) (kd rd rn nn node:Int) (X:AV) (val:ByteArray) (a b i:Nat) (me n st br bn fr nx:Int) (XP XA XO:AV) (w:Int) (hp1:List AObj) (hlen:env.length=123) (f7:Env.get env 7= .ptr (.hp a) 0) (f8:Env.get env 8= .ptr (.hp b) 0) (f10:Env.get env 10= .ptr (.st i) 0) (hX:Plain X) (hX1:XP.one=true) (hA1:XA.one=true) (hO1:XO.one=true) (hro0:ro=none) (gI0:(AS.mk hp s).get (.st i)=some (.cells [.int .i64 kd, .int .u64 rd, .int .i64 rn, .int .i64 nn, .int .i64 node,X, .str val])) (k1:callW Try.prog how 15 [.ptr (.hp a) 0, .ptr (.hp b) 0, .agg [.int .i64 kd, .int .u64 rd, .int .i64 rn, .int .i64 nn, .int .i64 node,X, .str val]] ⟨hp,s⟩ none=some (.bool true,⟨hp1,s⟩)) (k2:callW Try.prog how 16 [.ptr (.hp a) 0] ⟨hp1,s⟩ none=some (.int .i64 st,⟨hp1,s⟩)) (k3:callW Try.prog how 18 [.ptr (.hp a) 0] ⟨hp1,s⟩ none=some (.agg [.int .u64 br, .int .i64 bn],⟨hp1,s⟩)) (k4:callW Try.prog how 17 [.agg [.int .u64 br, .int .i64 bn]] ⟨hp1,s⟩ none=some (.agg [.int .u64 br, .int .i64 bn],⟨hp1,s⟩)) (k5:callW Try.prog how 13 [.ptr (.hp a) 0] ⟨hp1,s⟩ none=some (.int .i64 w,⟨hp1,s⟩)) (q: ¬st=2) (hB:(AS.mk hp1 s).get (.hp b)=some (.cells [.int .i64 me, .int .i64 n, .int .i64 st, .int .u64 br, .int .i64 bn, .int .i64 fr,XP,XA,XO, .int .i64 nx])) (hBt:(AS.mk (hp1.take hp.length) s).get (.hp b)=some (.cells [.int .i64 me, .int .i64 n, .int .i64 st, .int .u64 br, .int .i64 bn, .int .i64 fr,XP,XA,XO, .int .i64 nx])) (hle:hp.length≤hp1.length):
  Pc Try.prog how (Cx.mk h ro []) [2000006] 123 [29,30,31,32,33,34,35,36,37,38,39,40,41,42,43,44,45,46,47,48,49,50,51,52,53,54,55,56,57,58,59,60,61,62,63,64,65,66,67,68] (cr [.r, .r, .l, .r, .i, .i, .r, .r, .l, .i, .r, .r, .l, .l]) env ⟨hp,s⟩ .normal ⟨hp1,s⟩ (fun env'=>Env.get env' 68= .bool false):=by
 refine pc_of fun res hr=>?_
 rw[m6b_reg,execW_region_eq] at hr
 rw[show (m6b_q.toArray).toList=m6b_q from rfl,regionA_mix rfl rfl] at hr
 generalize h1:mixZ Try.prog (Cx.mk h ro []) (callW Try.prog how) ⟨hp,s⟩ m6b_q true none (m6b_q.zip m6b_plan) env (resv (cntM Try.prog m6b_q (newSt (Cx.mk h ro [])) 0 m6b_q.length) ⟨hp,s⟩)=r1 at*
 have h1':=h1
 rw[m6b_room h ro] at h1'
 simp -implicitDefEqProofs [m6b_plan,-eqA,m6b_q,cr,Try.f4,hlen,f7,f8,f10,hX.one,hX.inb,hX.row,hX.cells,hX1,hA1,hO1,hro0,gI0,k1,k2,k3,k4,k5,q,hB,hBt,hle,gd37,eqB37] at h1'
 subst h1'
 rw[mixA_planZ2 (m6b_ok h ro) m6b_lt h1,m6b_room h ro] at hr
 simp -implicitDefEqProofs [m6b_plan,-eqA,m6b_q,cr,Try.f4,hlen,f7,f8,f10,hX.one,hX.inb,hX.row,hX.cells,hX1,hA1,hO1,hro0,gI0,k1,k2,k3,k4,k5,q,hB,hBt,hle,gd37,eqB37] at hr
 subst hr
 refine ⟨_,rfl,by simp[hlen],by simp[Env.get_set,hlen,f7,f8,f10,hX.one,hX.inb,hX.row,hX.cells,hX1,hA1,hO1,hro0,gI0,k1,k2,k3,k4,k5,q,hB,hBt,hle,gd37,eqB37],fun i hi=>?_⟩
 simp only[List.mem_cons,List.not_mem_nil,or_false,not_or] at hi
 simp only[putE,get_set2,hi,false_and,if_false]
theorem r7 (cx:Cx) (env:Env) (σ:AS) (hlen:env.length=123) (hcx:cx.esc= []):
  Pc Try.prog how cx [2000006] 123 [6] (cr [.r, .r, .l, .r, .i, .i, .r, .r, .l, .i, .r, .r, .l, .r, .l, .l]) env σ (.normal) (σ) (fun env'=>Env.get env' 6= .bool false):=by
 refine pc_of fun res hr=>?_
 simp -implicitDefEqProofs [AS.get_push_at,AS.get_push_old,AS.push_len,AS.set_st_len,AS.next_st',AS.set_push_at,AS.get_set_self,AS.get_set_other,cr,Try.f4,hlen,hcx] at hr
 subst hr
 refine ⟨_,rfl,by simp[hlen],by simp[Env.get_set,hlen],fun i hi=>?_⟩
 simp only[List.mem_cons,List.not_mem_nil,or_false,not_or] at hi
 simp only[putE,get_set2,hi,false_and,if_false]
theorem r8 (cx:Cx) (env:Env) (σ:AS) (a:Nat) (V:AV) (hp1:List AObj) (hp s:List AObj) (hlen:env.length=123) (hcx:cx.esc= []) (f7:Env.get env 7= .ptr (.hp a) 0) (hσ:σ=⟨hp,s⟩) (hro0:cx.ro=none) (k1:callW Try.prog how 12 [.ptr (.hp a) 0] ⟨hp,s⟩ none=some (V,⟨hp1,s⟩)):
  Pc Try.prog how cx [2000006] 123 [11,69,70] (cr [.r, .r, .l, .r, .i, .i, .r, .r, .l, .i, .r, .r, .r, .l]) env σ (.normal) (AS.mk hp1 s) (fun env'=>Env.get env' 11=V):=by
 refine pc_of fun res hr=>?_
 simp -implicitDefEqProofs [AS.get_push_at,AS.get_push_old,AS.push_len,AS.set_st_len,AS.next_st',AS.set_push_at,AS.get_set_self,AS.get_set_other,cr,Try.f4,hlen,hcx,f7,hσ,hro0,k1] at hr
 subst hr
 refine ⟨_,rfl,by simp[hlen],by simp[Env.get_set,hlen,f7,hσ,hro0,k1],fun i hi=>?_⟩
 simp only[List.mem_cons,List.not_mem_nil,or_false,not_or] at hi
 simp only[putE,get_set2,hi,false_and,if_false]
theorem r9 (cx:Cx) (env:Env) (σ:AS) (b:Nat) (me n st br bn fr nx:Int) (XP XA XO:AV) (V:AV) (n1 n2:Nat) (hlen:env.length=123) (hcx:cx.esc= []) (f8:Env.get env 8= .ptr (.hp b) 0) (f11:Env.get env 11=V) (hX1:XP.one=true) (hA1:XA.one=true) (hO1:XO.one=true) (hB:σ.get (.hp b)=some (.cells [.int .i64 me, .int .i64 n, .int .i64 st, .int .u64 br, .int .i64 bn, .int .i64 fr,XP,XA,XO, .int .i64 nx])) (h1l:lenA Try.prog σ 32 V=some n1) (h2l:lenA Try.prog σ 40 XO=some n2) (he:n1=n2):
  Pc Try.prog how cx [2000006] 123 [71,72,73,74,75,76,77,78] (cr [.r, .r, .l, .r, .i, .i, .r, .r, .l, .i, .r, .r, .r, .r, .l, .l]) env σ (.normal) (σ) (fun env'=>Env.get env' 78= .bool false):=by
 refine pc_of fun res hr=>?_
 simp -implicitDefEqProofs [-lenA,AS.get_push_at,AS.get_push_old,AS.push_len,AS.set_st_len,AS.next_st',AS.set_push_at,AS.get_set_self,AS.get_set_other,cr,Try.f4,hlen,hcx,f8,f11,hX1,hA1,hO1,hB,h1l,h2l,he] at hr
 subst hr
 refine ⟨_,rfl,by simp[hlen],by simp[Env.get_set,hlen,f8,f11,hX1,hA1,hO1,hB,h1l,h2l,he],fun i hi=>?_⟩
 simp only[List.mem_cons,List.not_mem_nil,or_false,not_or] at hi
 simp only[putE,get_set2,hi,false_and,if_false]
theorem r11 (cx:Cx) (env:Env) (σ:AS) (b:Nat) (me n st br bn fr nx:Int) (XP XA XO:AV) (n2:Nat) (hlen:env.length=123) (hcx:cx.esc= []) (f8:Env.get env 8= .ptr (.hp b) 0) (hX1:XP.one=true) (hA1:XA.one=true) (hO1:XO.one=true) (hB:σ.get (.hp b)=some (.cells [.int .i64 me, .int .i64 n, .int .i64 st, .int .u64 br, .int .i64 bn, .int .i64 fr,XP,XA,XO, .int .i64 nx])) (h2l:lenA Try.prog σ 40 XO=some n2):
  Pc Try.prog how cx [2000006] 123 [79,80,81,82,83,84] (cr [.r, .r, .l, .r, .i, .i, .r, .r, .l, .i, .r, .r, .r, .r, .r, .l]) env σ (.normal) (σ) (fun env'=>Env.get env' 82=XO∧Env.get env' 83= .int .i64 (n2:Int)∧Env.get env' 84= .int .i64 0):=by
 refine pc_of fun res hr=>?_
 simp -implicitDefEqProofs [-lenA,AS.get_push_at,AS.get_push_old,AS.push_len,AS.set_st_len,AS.next_st',AS.set_push_at,AS.get_set_self,AS.get_set_other,cr,Try.f4,hlen,hcx,f8,hX1,hA1,hO1,hB,h2l] at hr
 subst hr
 refine ⟨_,rfl,by simp[hlen],by simp[Env.get_set,hlen,f8,hX1,hA1,hO1,hB,h2l],fun i hi=>?_⟩
 simp only[List.mem_cons,List.not_mem_nil,or_false,not_or] at hi
 simp only[putE,get_set2,hi,false_and,if_false]
theorem rI (cx:Cx) (env:Env) (σ:AS) (k:Nat) (Z pp:AV) (x:Int) (v:ByteArray) (hlen:env.length=123) (hcx:cx.esc= []) (f82:Env.get env 82=Z) (f84:Env.get env 84= .int .i64 (k:Int)) (hia:indexAddrA Try.prog σ 40 Z (.int .i64 (k:Int))=some pp) (hpa:loadA Try.prog σ 47 pp=some (.agg [.int .i64 x, .str v])) (hw:wok cx.ro (.st σ.st.length)=true) (hh:cx.h≤σ.st.length):
  Pc Try.prog how cx [2000006] 123 [12,13,86,87,88] (cr [.r, .r, .l, .r, .i, .i, .r, .r, .l, .i, .r, .r, .r, .r, .r, .r, .i, .i, .r, .r, .l, .i, .l]) env σ (.normal) (σ.push false (.cells [.int .i64 x, .str v])) (fun env'=>Env.get env' 12= .int .i64 (k:Int)∧Env.get env' 13= .ptr (.st σ.st.length) 0):=by
 refine pc_of fun res hr=>?_
 simp -implicitDefEqProofs [-indexAddrA,-loadA,AS.get_push_at,AS.get_push_old,AS.push_len,AS.set_st_len,AS.next_st',AS.set_push_at,AS.get_set_self,AS.get_set_other,cr,Try.f4,hlen,hcx,f82,f84,hia,hpa,hw,hh] at hr
 subst hr
 refine ⟨_,rfl,by simp[hlen],by simp[Env.get_set,hlen,f82,f84,hia,hpa,hw,hh],fun i hi=>?_⟩
 simp only[List.mem_cons,List.not_mem_nil,or_false,not_or] at hi
 simp only[putE,get_set2,hi,false_and,if_false]
theorem rJ (cx:Cx) (env:Env) (σ:AS) (b:Nat) (me n st br bn fr nx:Int) (XP XA XO:AV) (k c:Nat) (V:AV) (x:Int) (v:ByteArray) (hlen:env.length=123) (hcx:cx.esc= []) (f8:Env.get env 8= .ptr (.hp b) 0) (f11:Env.get env 11=V) (f12:Env.get env 12= .int .i64 (k:Int)) (f13:Env.get env 13= .ptr (.st c) 0) (hX1:XP.one=true) (hA1:XA.one=true) (hO1:XO.one=true) (hB:σ.get (.hp b)=some (.cells [.int .i64 me, .int .i64 n, .int .i64 st, .int .u64 br, .int .i64 bn, .int .i64 fr,XP,XA,XO, .int .i64 nx])) (gc:σ.get (.st c)=some (.cells [.int .i64 x, .str v])) (hia:indexAddrA Try.prog σ 32 V (.int .i64 (k:Int))=some (.rptr [.int .i64 x, .int .u64 br, .int .i64 bn, .str v] 0)) (k4:callW Try.prog how 17 [.agg [.int .u64 br, .int .i64 bn]] σ (some σ.st.length)=some (.agg [.int .u64 br, .int .i64 bn],σ)):
  Pc Try.prog how cx [2000006] 123 [89,90,91,92,93,94,95,96,97,98,99,100,101,102,103,104,105,106,107,108,109,110,111,112,113,114,115,116,117,118,119] (cr [.r, .r, .l, .r, .i, .i, .r, .r, .l, .i, .r, .r, .r, .r, .r, .r, .i, .i, .r, .r, .l, .i, .r, .l]) env σ (.normal) (σ) (fun env'=>Env.get env' 119= .bool false):=by
 refine pc_of fun res hr=>?_
 simp -implicitDefEqProofs [-eqA,-indexAddrA,AS.get_push_at,AS.get_push_old,AS.push_len,AS.set_st_len,AS.next_st',AS.set_push_at,AS.get_set_self,AS.get_set_other,cr,Try.f4,hlen,hcx,f8,f11,f12,f13,hX1,hA1,hO1,hB,gc,hia,k4,gd37,eqB37,beqS_dec,regionA_quietM (tails:= [2000006]) (id:=14) (m:=0) rfl rfl rfl] at hr
 subst hr
 refine ⟨_,rfl,by simp[hlen],by simp[Env.get_set,hlen,f8,f11,f12,f13,hX1,hA1,hO1,hB,gc,hia,k4,gd37,eqB37,beqS_dec,regionA_quietM (tails:= [2000006]) (id:=14) (m:=0) rfl rfl rfl],fun i hi=>?_⟩
 simp only[List.mem_cons,List.not_mem_nil,or_false,not_or] at hi
 simp only[putE,get_set2,hi,false_and,if_false]
theorem rZ (cx:Cx) (env:Env) (σ:AS) (hlen:env.length=123) (hcx:cx.esc= []) (k1:callW Try.prog how 8 [] σ cx.ro=some (.bool true,σ)):
  Pc Try.prog how cx [2000006] 123 [6,122] (cr [.r, .r, .r, .l]) env σ (.normal) (σ) (fun env'=>Env.get env' 6= .bool true):=by
 refine pc_of fun res hr=>?_
 simp -implicitDefEqProofs [AS.get_push_at,AS.get_push_old,AS.push_len,AS.set_st_len,AS.next_st',AS.set_push_at,AS.get_set_self,AS.get_set_other,cr,Try.f4,hlen,hcx,k1] at hr
 subst hr
 refine ⟨_,rfl,by simp[hlen],by simp[Env.get_set,hlen,k1],fun i hi=>?_⟩
 simp only[List.mem_cons,List.not_mem_nil,or_false,not_or] at hi
 simp only[putE,get_set2,hi,false_and,if_false]
end
noncomputable def bodyC:Code:=(.seq (cr [.l]) (.seq (cr [.r, .l]) (.seq (.seq (cr [.r, .r, .l, .l]) (cr [.r, .r, .l, .r])) (.seq (cr [.r, .r, .r, .l]) .ret))))
theorem body:Try.f4.body=some bodyC:=by kernel_rfl
def Ji (h:Nat) (σ0:AS) (a b:Nat) (me n st br bn fr nx:Int) (XP XA XO Z:AV) (NN KK:Nat) (op:List (Int×ByteArray)) (k:Nat) (env:Env) (σ:AS):Prop:=
 Env.get env 7= .ptr (.hp a) 0∧Env.get env 8= .ptr (.hp b) 0∧Env.get env 11=(slV 4 ((op.map (rowV br bn)).map encVt))∧Env.get env 20=Z∧Env.get env 21= .int .i64 ((NN:Nat):Int)∧Env.get env 22= .int .i64 ((KK:Nat):Int)∧Env.get env 82=XO∧Outside h σ0 σ
def Exi (h:Nat) (σ0:AS) (a b:Nat) (me n st br bn fr nx:Int) (XP XA XO Z:AV) (NN KK:Nat) (op:List (Int×ByteArray)) (e:AExit) (env:Env) (σ:AS):Prop:=False
theorem Ji_stable {h:Nat} {σ0:AS} {a b:Nat} {me n st br bn fr nx:Int} {XP XA XO Z:AV} {NN KK:Nat} {op:List (Int×ByteArray)}: ∀k env env' σ,env.length=123→env'.length=123→(∀i,i≠85→i≠120→i≠84→Env.get env' i=Env.get env i)→Ji h σ0 a b me n st br bn fr nx XP XA XO Z NN KK op k env σ→Ji h σ0 a b me n st br bn fr nx XP XA XO Z NN KK op k env' σ:=by
 rintro k env env' σ _ _ hf ⟨j7,j8,j11,j20,j21,j22,j82,ho⟩
 exact ⟨(hf 7 (by decide) (by decide) (by decide)).trans j7,(hf 8 (by decide) (by decide) (by decide)).trans j8,(hf 11 (by decide) (by decide) (by decide)).trans j11,(hf 20 (by decide) (by decide) (by decide)).trans j20,(hf 21 (by decide) (by decide) (by decide)).trans j21,(hf 22 (by decide) (by decide) (by decide)).trans j22,(hf 82 (by decide) (by decide) (by decide)).trans j82,ho⟩
noncomputable def oTi:Oper:=(opsOf (cr [.r, .r, .l, .r, .i, .i, .r, .r, .l, .i, .r, .r, .r, .r, .r, .r, .i, .i, .l])).headD default
noncomputable def oIi:List Oper:=opsOf (cr [.r, .r, .l, .r, .i, .i, .r, .r, .l, .i, .r, .r, .r, .r, .r, .r, .i, .i, .r, .r, .r])
theorem loop_eqi:(cr [.r, .r, .l, .r, .i, .i, .r, .r, .l, .i, .r, .r, .r, .r, .r, .r])= .block 2 (.loop (.seq (.region 12 #[oTi] false) (.seq (.cond (.tmp 85) .skip (.exit 2)) (.seq (.block 3 (.seq (cr [.r, .r, .l, .r, .i, .i, .r, .r, .l, .i, .r, .r, .r, .r, .r, .r, .i, .i, .r, .r, .l, .i, .l]) (.seq (cr [.r, .r, .l, .r, .i, .i, .r, .r, .l, .i, .r, .r, .r, .r, .r, .r, .i, .i, .r, .r, .l, .i, .r, .l]) (cr [.r, .r, .l, .r, .i, .i, .r, .r, .l, .i, .r, .r, .r, .r, .r, .r, .i, .i, .r, .r, .l, .i, .r, .r])))) (.region 16 #[oIi.headD default,(oIi.drop 1).headD default] false))))):=by kernel_rfl
theorem stepi (cx:Cx) (hcx:cx.esc= []) (hro: ∀k,cx.ro=some k→k≤cx.h) (σ0:AS) (a b:Nat) (me n st br bn fr nx:Int) (XP XA XO Z:AV) (NN KK:Nat) (op:List (Int×ByteArray)) (hB:σ0.hp[b]?=some (.cells [.int .i64 me, .int .i64 n, .int .i64 st, .int .u64 br, .int .i64 bn, .int .i64 fr,XP,XA,XO, .int .i64 nx])) (hX1:XP.one=true) (hA1:XA.one=true) (hO1:XO.one=true) (hO: ∀st,Rd Try.prog ⟨σ0.hp,st⟩ 40 47 XO (op.map encRw)):
  ∀k env σ,k<op.length→env.length=123→Env.get env 84= .int .i64 (k:Int)→Env.get env 83= .int .i64 ((op.length:Nat):Int)→Ji cx.h σ0 a b me n st br bn fr nx XP XA XO Z NN KK op k env σ→ ∃e env' σ',execW Try.prog cx [2000006] (callW Try.prog how) (.block 3 (.seq (cr [.r, .r, .l, .r, .i, .i, .r, .r, .l, .i, .r, .r, .r, .r, .r, .r, .i, .i, .r, .r, .l, .i, .l]) (.seq (cr [.r, .r, .l, .r, .i, .i, .r, .r, .l, .i, .r, .r, .r, .r, .r, .r, .i, .i, .r, .r, .l, .i, .r, .l]) (cr [.r, .r, .l, .r, .i, .i, .r, .r, .l, .i, .r, .r, .r, .r, .r, .r, .i, .i, .r, .r, .l, .i, .r, .r])))) (env,σ)=some (e,(env',σ'))∧
   ((e= .normal∧env'.length=123∧Env.get env' 84= .int .i64 (k:Int)∧Env.get env' 83= .int .i64 ((op.length:Nat):Int)∧Ji cx.h σ0 a b me n st br bn fr nx XP XA XO Z NN KK op (k+1) env' σ')∨(e≠ .normal∧Exi cx.h σ0 a b me n st br bn fr nx XP XA XO Z NN KK op e env' σ')):=by
 rintro k env σ hk hlen f84 f83 ⟨f7,f8,f11,f20,f21,f22,f82,ho⟩
 have hOσ:Rd Try.prog σ 40 47 XO (op.map encRw):=by have:=hO σ.st; rw[←ho.1] at this; exact this
 have hBσ:σ.hp[b]?=some (.cells [.int .i64 me, .int .i64 n, .int .i64 st, .int .u64 br, .int .i64 bn, .int .i64 fr,XP,XA,XO, .int .i64 nx]):=by rw[ho.1]; exact hB
 obtain ⟨pp,hia,hpa⟩:=hOσ.2 k (encRw op[k]) (get_el hk)
 have hhp:σ.hp=σ0.hp:=ho.1
 obtain ⟨env1,x1a,x1b,x1c,x1d⟩:=rI cx env σ k _ pp (op[k].1) (op[k].2) hlen hcx f82 f84 hia hpa (wokst hro ho.2.2) ho.2.2
 have f7:=(x1d 7 (by decide)).trans f7
 have f8:=(x1d 8 (by decide)).trans f8
 have f11:=(x1d 11 (by decide)).trans f11
 have f20:=(x1d 20 (by decide)).trans f20
 have f21:=(x1d 21 (by decide)).trans f21
 have f22:=(x1d 22 (by decide)).trans f22
 have f82:=(x1d 82 (by decide)).trans f82
 have f83:=(x1d 83 (by decide)).trans f83
 have f84:=(x1d 84 (by decide)).trans f84
 have f12:=x1c.1
 have f13:=x1c.2
 have g1:((σ:AS).push false (.cells [.int .i64 op[k].1, .str op[k].2])).get (.st (σ:AS).st.length)=some (.cells [.int .i64 op[k].1, .str op[k].2]):=AS.get_push_at rfl
 have ho:=ho.push (ob:= .cells [.int .i64 op[k].1, .str op[k].2])
 generalize hib1:(σ:AS).st.length=ib1 at g1 f13
 generalize (σ:AS).push false (.cells [.int .i64 op[k].1, .str op[k].2])=σ1 at x1a g1 ho
 have hB2:σ1.get (.hp b)=some (.cells [.int .i64 me, .int .i64 n, .int .i64 st, .int .u64 br, .int .i64 bn, .int .i64 fr,XP,XA,XO, .int .i64 nx]):=by show σ1.hp[b]?=_; rw[ho.1]; exact hB
 have hiv:=idx_slV Try.prog σ1 32 49 4 (by simp) ((op.map (rowV br bn)).map encVt) k (encVt (rowV br bn op[k])) s49 (by decide) (by rw[List.map_map]; exact get_el hk)
 have k4:=plain_c σ1.hp σ1.st (some σ1.st.length) br bn (fun j hj=>by cases hj; exact Nat.le_refl _)
 obtain ⟨env2,x2a,x2b,x2c,x2d⟩:=rJ cx env1 σ1 b me n st br bn fr nx XP XA XO k _ _ _ _ x1b hcx f8 f11 f12 f13 hX1 hA1 hO1 hB2 g1 hiv k4
 have f7:=(x2d 7 (by decide)).trans f7
 have f8:=(x2d 8 (by decide)).trans f8
 have f11:=(x2d 11 (by decide)).trans f11
 have f12:=(x2d 12 (by decide)).trans f12
 have f13:=(x2d 13 (by decide)).trans f13
 have f20:=(x2d 20 (by decide)).trans f20
 have f21:=(x2d 21 (by decide)).trans f21
 have f22:=(x2d 22 (by decide)).trans f22
 have f82:=(x2d 82 (by decide)).trans f82
 have f83:=(x2d 83 (by decide)).trans f83
 have f84:=(x2d 84 (by decide)).trans f84
 have f119:=x2c
 have ev1:=ev_tmp f119
 exact ⟨.normal,env2,_,(execW_block_of (execW_seq_of x1a (execW_seq_of x2a (execW_cond_f ev1 (by rfl))))), .inl ⟨rfl,x2b,f84,f83,f7,f8,f11,f20,f21,f22,f82,ho⟩⟩
theorem loopi (cx:Cx) (hcx:cx.esc= []) (hro: ∀k,cx.ro=some k→k≤cx.h) (σ0:AS) (a b:Nat) (me n st br bn fr nx:Int) (XP XA XO Z:AV) (NN KK:Nat) (op:List (Int×ByteArray)) (hB:σ0.hp[b]?=some (.cells [.int .i64 me, .int .i64 n, .int .i64 st, .int .u64 br, .int .i64 bn, .int .i64 fr,XP,XA,XO, .int .i64 nx])) (hX1:XP.one=true) (hA1:XA.one=true) (hO1:XO.one=true) (hO: ∀st,Rd Try.prog ⟨σ0.hp,st⟩ 40 47 XO (op.map encRw)) (hnn:op.length≤9223372036854775807) {env:Env} {σ:AS} (hl:env.length=123) (h1:Env.get env 84= .int .i64 0) (h2:Env.get env 83= .int .i64 ((op.length:Nat):Int)) (h0:Ji cx.h σ0 a b me n st br bn fr nx XP XA XO Z NN KK op 0 env σ):
  ∃e env' σ',execW Try.prog cx [2000006] (callW Try.prog how) (cr [.r, .r, .l, .r, .i, .i, .r, .r, .l, .i, .r, .r, .r, .r, .r, .r]) (env,σ)=some (e,(env',σ'))∧((e= .normal∧((env'.length=123∧Ji cx.h σ0 a b me n st br bn fr nx XP XA XO Z NN KK op (op.length) env' σ')∨Exi cx.h σ0 a b me n st br bn fr nx XP XA XO Z NN KK op (.exit 2) env' σ'))∨(e≠ .normal∧e≠ .exit 2∧Exi cx.h σ0 a b me n st br bn fr nx XP XA XO Z NN KK op e env' σ')):=by
 rw[loop_eqi]
 exact range_std (Ex:=Exi cx.h σ0 a b me n st br bn fr nx XP XA XO Z NN KK op) (N:=123) (tc:=85) (ti:=84) (tl:=83) (tx:=120) (ty1:=3) (ty2:=3) (ty3:=3) (ty4:=3) ⟨by kernel_rfl,by kernel_rfl,by kernel_rfl⟩ ⟨by kernel_rfl,by kernel_rfl,by kernel_rfl⟩ ⟨by kernel_rfl,by kernel_rfl,by kernel_rfl⟩ (by decide) hnn Ji_stable (stepi cx hcx hro σ0 a b me n st br bn fr nx XP XA XO Z NN KK op hB hX1 hA1 hO1 hO) hl h1 h2 h0
def Jo (h:Nat) (σ0:AS) (a b:Nat) (me n:Int) (Z:AV) (l:List OpV) (k:Nat) (env:Env) (σ:AS):Prop:=
 Env.get env 7= .ptr (.hp a) 0∧Env.get env 8= .ptr (.hp b) 0∧Env.get env 20=Z∧σ.st.take h=σ0.st.take h∧h≤σ.st.length∧ ∃p r,Two σ.hp a b me n p r∧Rel n p r∧Small k r
def Exo (h:Nat) (σ0:AS) (a b:Nat) (me n:Int) (Z:AV) (l:List OpV) (e:AExit) (env:Env) (σ:AS):Prop:=e= .exit 0∧env.length=123∧σ.st.take h=σ0.st.take h∧h≤σ.st.length
theorem Jo_stable {h:Nat} {σ0:AS} {a b:Nat} {me n:Int} {Z:AV} {l:List OpV}: ∀k env env' σ,env.length=123→env'.length=123→(∀i,i≠23→i≠121→i≠22→Env.get env' i=Env.get env i)→Jo h σ0 a b me n Z l k env σ→Jo h σ0 a b me n Z l k env' σ:=by
 rintro k env env' σ _ _ hf ⟨j7,j8,j20,ho⟩
 exact ⟨(hf 7 (by decide) (by decide) (by decide)).trans j7,(hf 8 (by decide) (by decide) (by decide)).trans j8,(hf 20 (by decide) (by decide) (by decide)).trans j20,ho⟩
noncomputable def oTo:Oper:=(opsOf (cr [.r, .r, .l, .r, .i, .i, .l])).headD default
noncomputable def oIo:List Oper:=opsOf (cr [.r, .r, .l, .r, .i, .i, .r, .r, .r])
theorem loop_eqo:(cr [.r, .r, .l, .r])= .block 0 (.loop (.seq (.region 3 #[oTo] false) (.seq (.cond (.tmp 23) .skip (.exit 0)) (.seq (.block 1 (.seq (cr [.r, .r, .l, .r, .i, .i, .r, .r, .l, .i, .l]) (.seq (.seq (cr [.r, .r, .l, .r, .i, .i, .r, .r, .l, .i, .r, .l, .l]) (cr [.r, .r, .l, .r, .i, .i, .r, .r, .l, .i, .r, .l, .r])) (.seq (.seq (cr [.r, .r, .l, .r, .i, .i, .r, .r, .l, .i, .r, .r, .l, .l]) (.cond (.tmp 68) (.seq (cr [.r, .r, .l, .r, .i, .i, .r, .r, .l, .i, .r, .r, .l, .r, .l, .l]) .ret) .skip)) (.seq (cr [.r, .r, .l, .r, .i, .i, .r, .r, .l, .i, .r, .r, .r, .l]) (.seq (.seq (cr [.r, .r, .l, .r, .i, .i, .r, .r, .l, .i, .r, .r, .r, .r, .l, .l]) (cr [.r, .r, .l, .r, .i, .i, .r, .r, .l, .i, .r, .r, .r, .r, .l, .r])) (.seq (cr [.r, .r, .l, .r, .i, .i, .r, .r, .l, .i, .r, .r, .r, .r, .r, .l]) (cr [.r, .r, .l, .r, .i, .i, .r, .r, .l, .i, .r, .r, .r, .r, .r, .r])))))))) (.region 17 #[oIo.headD default,(oIo.drop 1).headD default] false))))):=by kernel_rfl
theorem stepo (cx:Cx) (hcx:cx.esc= []) (hro: ∀k,cx.ro=some k→k≤cx.h) (σ0:AS) (a b:Nat) (me n:Int) (Z:AV) (l:List OpV) (hro2:cx.ro=none) (hn:1≤n∧n≤5) (hme:0≤me∧me<5) (hZ: ∀σ,Rd Try.prog σ 51 54 Z (l.map encOp)) (hok: ∀o∈l,OpOk o) (hll:l.length≤9223372036854775807):
  ∀k env σ,k<l.length→env.length=123→Env.get env 22= .int .i64 (k:Int)→Env.get env 21= .int .i64 ((l.length:Nat):Int)→Jo cx.h σ0 a b me n Z l k env σ→ ∃e env' σ',execW Try.prog cx [2000006] (callW Try.prog how) (.block 1 (.seq (cr [.r, .r, .l, .r, .i, .i, .r, .r, .l, .i, .l]) (.seq (.seq (cr [.r, .r, .l, .r, .i, .i, .r, .r, .l, .i, .r, .l, .l]) (cr [.r, .r, .l, .r, .i, .i, .r, .r, .l, .i, .r, .l, .r])) (.seq (.seq (cr [.r, .r, .l, .r, .i, .i, .r, .r, .l, .i, .r, .r, .l, .l]) (.cond (.tmp 68) (.seq (cr [.r, .r, .l, .r, .i, .i, .r, .r, .l, .i, .r, .r, .l, .r, .l, .l]) .ret) .skip)) (.seq (cr [.r, .r, .l, .r, .i, .i, .r, .r, .l, .i, .r, .r, .r, .l]) (.seq (.seq (cr [.r, .r, .l, .r, .i, .i, .r, .r, .l, .i, .r, .r, .r, .r, .l, .l]) (cr [.r, .r, .l, .r, .i, .i, .r, .r, .l, .i, .r, .r, .r, .r, .l, .r])) (.seq (cr [.r, .r, .l, .r, .i, .i, .r, .r, .l, .i, .r, .r, .r, .r, .r, .l]) (cr [.r, .r, .l, .r, .i, .i, .r, .r, .l, .i, .r, .r, .r, .r, .r, .r])))))))) (env,σ)=some (e,(env',σ'))∧
   ((e= .normal∧env'.length=123∧Env.get env' 22= .int .i64 (k:Int)∧Env.get env' 21= .int .i64 ((l.length:Nat):Int)∧Jo cx.h σ0 a b me n Z l (k+1) env' σ')∨(e≠ .normal∧Exo cx.h σ0 a b me n Z l e env' σ')):=by
 rintro k env σ hk hlen f22 f21 ⟨f7,f8,f20,ho⟩
 obtain ⟨u1,u2,p,r,hT,hR,hsm⟩:=ho
 obtain ⟨hp,s1⟩:=σ
 simp only at u1 u2 hT
 obtain ⟨pp,hia,hpa⟩:=(hZ ⟨hp,s1⟩).2 k (encOp l[k]) (get_el hk)
 have hOk:=hok _ (List.getElem_mem hk)
 obtain ⟨env1,x1a,x1b,x1c,x1d⟩:=rE cx env (AS.mk hp s1) k _ pp (l[k].kd) (l[k].rd) (l[k].rn) (l[k].nn) (l[k].node) (l[k].X) (l[k].val) hp s1 hlen hcx f20 f22 hOk.x rfl hro2 u2 hia hpa
 have f7:=(x1d 7 (by decide)).trans f7
 have f8:=(x1d 8 (by decide)).trans f8
 have f20:=(x1d 20 (by decide)).trans f20
 have f21:=(x1d 21 (by decide)).trans f21
 have f22:=(x1d 22 (by decide)).trans f22
 have f9:=x1c.1
 have f10:=x1c.2
 obtain ⟨env2,x2a,x2b,x2c,x2d⟩:=r5 cx env1 (AS.mk hp (s1++ [AObj.cells [.int .i64 l[k].kd, .int .u64 l[k].rd, .int .i64 l[k].rn, .int .i64 l[k].nn, .int .i64 l[k].node,l[k].X, .str l[k].val]])) k x1b hcx f9
 have f7:=(x2d 7 (by decide)).trans f7
 have f8:=(x2d 8 (by decide)).trans f8
 have f9:=(x2d 9 (by decide)).trans f9
 have f10:=(x2d 10 (by decide)).trans f10
 have f20:=(x2d 20 (by decide)).trans f20
 have f21:=(x2d 21 (by decide)).trans f21
 have f22:=(x2d 22 (by decide)).trans f22
 have f28:=x2c
 have ev1:=ev_tmp f28
 have ht2:(s1++ [AObj.cells [.int .i64 l[k].kd, .int .u64 l[k].rd, .int .i64 l[k].rn, .int .i64 l[k].nn, .int .i64 l[k].node,l[k].X, .str l[k].val]]).take cx.h=σ0.st.take cx.h:=by rw[List.take_append_of_le_length u2]; exact u1
 have hl2:cx.h≤(s1++ [AObj.cells [.int .i64 l[k].kd, .int .u64 l[k].rd, .int .i64 l[k].rn, .int .i64 l[k].nn, .int .i64 l[k].node,l[k].X, .str l[k].val]]).length:=by simp; omega
 by_cases q30:30≤(k:Int)
 case pos=>
  rw[decide_eq_true q30] at ev1
  exact ⟨.exit 0,env2,_,(block_exit (execW_seq_of x1a (execW_seq_exit (execW_seq_of x2a (execW_cond_t ev1 (by rfl))))) (by simp)), .inr ⟨by simp,rfl,x2b,ht2,hl2⟩⟩
 rw[decide_eq_false q30] at ev1
 obtain ⟨hp1,p1,r1,k1,hT1,hR1,hsm1,hle⟩:=LStep.ok hp (s1++ [AObj.cells [.int .i64 l[k].kd, .int .u64 l[k].rd, .int .i64 l[k].rn, .int .i64 l[k].nn, .int .i64 l[k].node,l[k].X, .str l[k].val]]) a b me n l[k].kd l[k].rd l[k].rn l[k].nn l[k].node l[k].X l[k].val l[k].vs p r k hT hR hn hme hOk.rd hOk.x hOk.len hOk.u hsm (by omega)
 have hbl:b<hp.length:=by obtain ⟨F,G,_,h2,_⟩:=hT; exact h2.lt b (List.mem_cons_self ..)
 obtain ⟨F1,G1,hL1,hD1,hd1⟩:=hT1
 obtain ⟨B1,O1,hA1⟩:=hL1.at_
 have hD1':=hD1
 obtain ⟨XP,XA,XO,J1,J2,J3,hDr,hGe⟩:=hD1
 have k2:=state_c hp1 (s1++ [AObj.cells [.int .i64 l[k].kd, .int .u64 l[k].rd, .int .i64 l[k].rn, .int .i64 l[k].nn, .int .i64 l[k].node,l[k].X, .str l[k].val]]) none a me n p1.st p1.br p1.bn p1.fr p1.pr p1.nx B1 O1 (fun k hk=>by cases hk) (fun _=>hA1)
 have k3:=ballot_c hp1 (s1++ [AObj.cells [.int .i64 l[k].kd, .int .u64 l[k].rd, .int .i64 l[k].rn, .int .i64 l[k].nn, .int .i64 l[k].node,l[k].X, .str l[k].val]]) none a me n p1.st p1.br p1.bn p1.fr p1.pr p1.nx B1 O1 (fun k hk=>by cases hk) (fun _=>hA1)
 have k5:=next_c hp1 (s1++ [AObj.cells [.int .i64 l[k].kd, .int .u64 l[k].rd, .int .i64 l[k].rn, .int .i64 l[k].nn, .int .i64 l[k].node,l[k].X, .str l[k].val]]) none a me n p1.st p1.br p1.bn p1.fr p1.pr p1.nx B1 O1 (fun k hk=>by cases hk) (fun _=>hA1)
 have e1:(if p1.st=0 then 0 else p1.br)=r1.br:=by
  by_cases q:p1.st=0
  ·rw[if_pos q,←hR1.br,(hR1.idle q).1]
  ·rw[if_neg q,hR1.br]
 have e2:(if p1.st=0 then 0 else p1.bn)=r1.bn:=by
  by_cases q:p1.st=0
  ·rw[if_pos q,←hR1.bn,(hR1.idle q).2]
  ·rw[if_neg q,hR1.bn]
 rw[e1,e2] at k3
 rw[hR1.st] at k2
 have k4:=plain_c hp1 (s1++ [AObj.cells [.int .i64 l[k].kd, .int .u64 l[k].rd, .int .i64 l[k].rn, .int .i64 l[k].nn, .int .i64 l[k].node,l[k].X, .str l[k].val]]) none r1.br r1.bn (fun k hk=>by cases hk)
 have hBt:(hp1.take hp.length)[b]?=some (.cells (cellsR me n r1 XP XA XO)):=by rw[List.getElem?_take,if_pos hbl]; exact hDr.oB
 have hcxe:cx=Cx.mk cx.h none []:=by cases cx; simp only at hcx hro2; subst hcx; subst hro2; rfl
 have hm6: ∃e6,execW Try.prog cx [2000006] (callW Try.prog how) (cr [.r, .r, .l, .r, .i, .i, .r, .r, .l, .i, .r, .r, .l, .l]) (env2,⟨hp,(s1++ [AObj.cells [.int .i64 l[k].kd, .int .u64 l[k].rd, .int .i64 l[k].rn, .int .i64 l[k].nn, .int .i64 l[k].node,l[k].X, .str l[k].val]])⟩)=some (.normal,(e6,⟨hp1,(s1++ [AObj.cells [.int .i64 l[k].kd, .int .u64 l[k].rd, .int .i64 l[k].rn, .int .i64 l[k].nn, .int .i64 l[k].node,l[k].X, .str l[k].val]])⟩))∧e6.length=123∧Env.get e6 7= .ptr (.hp a) 0∧Env.get e6 8= .ptr (.hp b) 0∧Env.get e6 20=Z∧Env.get e6 21= .int .i64 ((l.length:Nat):Int)∧Env.get e6 22= .int .i64 (k:Int)∧Env.get e6 68= .bool false:=by
  by_cases q:p1.st=2
  case pos=>
   rw[if_pos q,hR1.nx] at k5
   obtain ⟨env3,x3a,x3b,x3c,x3d⟩:=m6a cx.h none hp ((s1++ [AObj.cells [.int .i64 l[k].kd, .int .u64 l[k].rd, .int .i64 l[k].rn, .int .i64 l[k].nn, .int .i64 l[k].node,l[k].X, .str l[k].val]])) env2 (l[k].kd) (l[k].rd) (l[k].rn) (l[k].nn) (l[k].node) (l[k].X) (l[k].val) a b s1.length me n r1.st r1.br r1.bn r1.fr r1.nx XP XA XO 0 hp1 x2b f7 f8 f10 hOk.x hDr.hX.one hDr.hA.one hDr.hO.one rfl (by simp[AS.get]) k1 k2 k3 k4 k5 (by rw[←hR1.st]; exact q) hDr.oB hBt hle
   have f7:=(x3d 7 (by decide)).trans f7
   have f8:=(x3d 8 (by decide)).trans f8
   have f9:=(x3d 9 (by decide)).trans f9
   have f10:=(x3d 10 (by decide)).trans f10
   have f20:=(x3d 20 (by decide)).trans f20
   have f21:=(x3d 21 (by decide)).trans f21
   have f22:=(x3d 22 (by decide)).trans f22
   have f28:=(x3d 28 (by decide)).trans f28
   have f68:=x3c
   rw[←hcxe] at x3a
   exact ⟨env3,x3a,x3b,f7,f8,f20,f21,f22,f68⟩
  rw[if_neg q] at k5
  obtain ⟨env3,x3a,x3b,x3c,x3d⟩:=m6b cx.h none hp ((s1++ [AObj.cells [.int .i64 l[k].kd, .int .u64 l[k].rd, .int .i64 l[k].rn, .int .i64 l[k].nn, .int .i64 l[k].node,l[k].X, .str l[k].val]])) env2 (l[k].kd) (l[k].rd) (l[k].rn) (l[k].nn) (l[k].node) (l[k].X) (l[k].val) a b s1.length me n r1.st r1.br r1.bn r1.fr r1.nx XP XA XO 0 hp1 x2b f7 f8 f10 hOk.x hDr.hX.one hDr.hA.one hDr.hO.one rfl (by simp[AS.get]) k1 k2 k3 k4 k5 (by rw[←hR1.st]; exact q) hDr.oB hBt hle
  have f7:=(x3d 7 (by decide)).trans f7
  have f8:=(x3d 8 (by decide)).trans f8
  have f9:=(x3d 9 (by decide)).trans f9
  have f10:=(x3d 10 (by decide)).trans f10
  have f20:=(x3d 20 (by decide)).trans f20
  have f21:=(x3d 21 (by decide)).trans f21
  have f22:=(x3d 22 (by decide)).trans f22
  have f28:=(x3d 28 (by decide)).trans f28
  have f68:=x3c
  rw[←hcxe] at x3a
  exact ⟨env3,x3a,x3b,f7,f8,f20,f21,f22,f68⟩
 obtain ⟨e6,y6a,y6b,f7,f8,f20,f21,f22,f68⟩:=hm6
 have ev2:=ev_tmp f68
 obtain ⟨hp2,ko,hL2,hk2⟩:=LOpen.ok hp1 (s1++ [AObj.cells [.int .i64 l[k].kd, .int .u64 l[k].rd, .int .i64 l[k].rn, .int .i64 l[k].nn, .int .i64 l[k].node,l[k].X, .str l[k].val]]) a me n p1 F1 hL1 hR1.asc (fun e he=>by have:=hR1.lt e he; have:=hR1.nx0; omega) (by have:=hR1.len; omega)
 have hD2:=hDr.keep hk2 fun i _=>by simp
 rw[opV_eq hL1 hR1] at ko
 obtain ⟨env21,x21a,x21b,x21c,x21d⟩:=r8 cx e6 (AS.mk hp1 (s1++ [AObj.cells [.int .i64 l[k].kd, .int .u64 l[k].rd, .int .i64 l[k].rn, .int .i64 l[k].nn, .int .i64 l[k].node,l[k].X, .str l[k].val]])) a ((slV 4 ((r1.op.map (rowV r1.br r1.bn)).map encVt))) hp2 hp1 ((s1++ [AObj.cells [.int .i64 l[k].kd, .int .u64 l[k].rd, .int .i64 l[k].rn, .int .i64 l[k].nn, .int .i64 l[k].node,l[k].X, .str l[k].val]])) y6b hcx f7 rfl hro2 ko
 have f7:=(x21d 7 (by decide)).trans f7
 have f8:=(x21d 8 (by decide)).trans f8
 have f20:=(x21d 20 (by decide)).trans f20
 have f21:=(x21d 21 (by decide)).trans f21
 have f22:=(x21d 22 (by decide)).trans f22
 have f68:=(x21d 68 (by decide)).trans f68
 have f11:=x21c
 have hlv:=len_slV Try.prog ⟨hp2,(s1++ [AObj.cells [.int .i64 l[k].kd, .int .u64 l[k].rd, .int .i64 l[k].rn, .int .i64 l[k].nn, .int .i64 l[k].node,l[k].X, .str l[k].val]])⟩ 32 49 4 (by simp) ((r1.op.map (rowV r1.br r1.bn)).map encVt)
 rw[List.length_map,List.length_map] at hlv
 have hlo:=(rdRw hD2.hO (s1++ [AObj.cells [.int .i64 l[k].kd, .int .u64 l[k].rd, .int .i64 l[k].rn, .int .i64 l[k].nn, .int .i64 l[k].node,l[k].X, .str l[k].val]])).1
 rw[List.length_map] at hlo
 obtain ⟨env22,x22a,x22b,x22c,x22d⟩:=r9 cx env21 (AS.mk hp2 (s1++ [AObj.cells [.int .i64 l[k].kd, .int .u64 l[k].rd, .int .i64 l[k].rn, .int .i64 l[k].nn, .int .i64 l[k].node,l[k].X, .str l[k].val]])) b me n r1.st r1.br r1.bn r1.fr r1.nx XP XA XO _ r1.op.length r1.op.length x21b hcx f8 f11 hD2.hX.one hD2.hA.one hD2.hO.one hD2.oB hlv hlo rfl
 have f7:=(x22d 7 (by decide)).trans f7
 have f8:=(x22d 8 (by decide)).trans f8
 have f11:=(x22d 11 (by decide)).trans f11
 have f20:=(x22d 20 (by decide)).trans f20
 have f21:=(x22d 21 (by decide)).trans f21
 have f22:=(x22d 22 (by decide)).trans f22
 have f68:=(x22d 68 (by decide)).trans f68
 have f78:=x22c
 have ev3:=ev_tmp f78
 obtain ⟨env23,x23a,x23b,x23c,x23d⟩:=r11 cx env22 (AS.mk hp2 (s1++ [AObj.cells [.int .i64 l[k].kd, .int .u64 l[k].rd, .int .i64 l[k].rn, .int .i64 l[k].nn, .int .i64 l[k].node,l[k].X, .str l[k].val]])) b me n r1.st r1.br r1.bn r1.fr r1.nx XP XA XO r1.op.length x22b hcx f8 hD2.hX.one hD2.hA.one hD2.hO.one hD2.oB hlo
 have f7:=(x23d 7 (by decide)).trans f7
 have f8:=(x23d 8 (by decide)).trans f8
 have f11:=(x23d 11 (by decide)).trans f11
 have f20:=(x23d 20 (by decide)).trans f20
 have f21:=(x23d 21 (by decide)).trans f21
 have f22:=(x23d 22 (by decide)).trans f22
 have f68:=(x23d 68 (by decide)).trans f68
 have f78:=(x23d 78 (by decide)).trans f78
 have f82:=x23c.1
 have f83:=x23c.2.1
 have f84:=x23c.2.2
 have ho:Outside cx.h (AS.mk hp2 (s1++ [AObj.cells [.int .i64 l[k].kd, .int .u64 l[k].rd, .int .i64 l[k].rn, .int .i64 l[k].nn, .int .i64 l[k].node,l[k].X, .str l[k].val]])) (AS.mk hp2 (s1++ [AObj.cells [.int .i64 l[k].kd, .int .u64 l[k].rd, .int .i64 l[k].rn, .int .i64 l[k].nn, .int .i64 l[k].node,l[k].X, .str l[k].val]])):=Outside.refl hl2
 obtain ⟨e24,env24,σ24,x24a,x24p⟩:=loopi cx hcx hro ⟨hp2,(s1++ [AObj.cells [.int .i64 l[k].kd, .int .u64 l[k].rd, .int .i64 l[k].rn, .int .i64 l[k].nn, .int .i64 l[k].node,l[k].X, .str l[k].val]])⟩ a b me n r1.st r1.br r1.bn r1.fr r1.nx XP XA XO Z l.length k r1.op hD2.oB hD2.hX.one hD2.hA.one hD2.hO.one (fun st=>rdRw hD2.hO st) (by have:=hR1.rlen; omega) (σ:=AS.mk hp2 (s1++ [AObj.cells [.int .i64 l[k].kd, .int .u64 l[k].rd, .int .i64 l[k].rn, .int .i64 l[k].nn, .int .i64 l[k].node,l[k].X, .str l[k].val]])) x23b f84 f83 (⟨f7,f8,f11,f20,f21,f22,f82,ho⟩)
 rcases x24p with ⟨rfl,⟨x24b,f7,f8,f11,f20,f21,f22,f82,ho⟩ | x24p⟩ | ⟨x24q,x24r,x24p⟩
 ·skip
  obtain ⟨hq,s9⟩:=σ24
  obtain ⟨w1,w2,w3⟩:=ho
  simp only at w1 w2 w3
  subst w1
  exact ⟨.normal,env24,_,(execW_block_of (execW_seq_of x1a (execW_seq_of (execW_seq_of x2a (execW_cond_f ev1 (by rfl))) (execW_seq_of (execW_seq_of y6a (execW_cond_f ev2 (by rfl))) (execW_seq_of x21a (execW_seq_of (execW_seq_of x22a (execW_cond_f ev3 (by rfl))) (execW_seq_of x23a x24a))))))), .inl ⟨rfl,x24b,f22,f21,f7,f8,f20,⟨w2.trans ht2,w3,p1,r1,Two.keep ⟨F1,G1,hL1,hD1',hd1⟩ hk2,hR1,hsm1⟩⟩⟩
 ·cases x24p
 ·cases x24p
theorem loopo (cx:Cx) (hcx:cx.esc= []) (hro: ∀k,cx.ro=some k→k≤cx.h) (σ0:AS) (a b:Nat) (me n:Int) (Z:AV) (l:List OpV) (hro2:cx.ro=none) (hn:1≤n∧n≤5) (hme:0≤me∧me<5) (hZ: ∀σ,Rd Try.prog σ 51 54 Z (l.map encOp)) (hok: ∀o∈l,OpOk o) (hll:l.length≤9223372036854775807) (hnn:l.length≤9223372036854775807) {env:Env} {σ:AS} (hl:env.length=123) (h1:Env.get env 22= .int .i64 0) (h2:Env.get env 21= .int .i64 ((l.length:Nat):Int)) (h0:Jo cx.h σ0 a b me n Z l 0 env σ):
  ∃e env' σ',execW Try.prog cx [2000006] (callW Try.prog how) (cr [.r, .r, .l, .r]) (env,σ)=some (e,(env',σ'))∧((e= .normal∧((env'.length=123∧Jo cx.h σ0 a b me n Z l (l.length) env' σ')∨Exo cx.h σ0 a b me n Z l (.exit 0) env' σ'))∨(e≠ .normal∧e≠ .exit 0∧Exo cx.h σ0 a b me n Z l e env' σ')):=by
 rw[loop_eqo]
 exact range_std (Ex:=Exo cx.h σ0 a b me n Z l) (N:=123) (tc:=23) (ti:=22) (tl:=21) (tx:=121) (ty1:=3) (ty2:=3) (ty3:=3) (ty4:=3) ⟨by kernel_rfl,by kernel_rfl,by kernel_rfl⟩ ⟨by kernel_rfl,by kernel_rfl,by kernel_rfl⟩ ⟨by kernel_rfl,by kernel_rfl,by kernel_rfl⟩ (by decide) hnn Jo_stable (stepo cx hcx hro σ0 a b me n Z l hro2 hn hme hZ hok hll) hl h1 h2 h0
theorem ok (hp s:List AObj) (me n:Int) (Z:AV) (l:List OpV) (hZ: ∀σ,Rd Try.prog σ 51 54 Z (l.map encOp)) (hok: ∀o∈l,OpOk o) (hll:l.length≤9223372036854775807):
  ∃σ',callW Try.prog how 4 [.int .i64 me, .int .i64 n,Z] ⟨hp,s⟩ none=some (.bool true,σ'):=by
 let cx:Cx:={h:=s.length,ro:=none,esc:= []}
 have hcx:cx.esc= []:=rfl
 have hro: ∀k,cx.ro=some k→k≤cx.h:=fun k hk=>by cases hk
 obtain ⟨env,henv⟩: ∃e,e=frameA Try.f4 [.int .i64 me, .int .i64 n,Z]:=⟨_,rfl⟩
 have hlen:env.length=123:=by rw[henv]; rfl
 have f0:Env.get env 0= .int .i64 me:=by rw[henv]; rfl
 have f1:Env.get env 1= .int .i64 n:=by rw[henv]; rfl
 have f2:Env.get env 2=Z:=by rw[henv]; rfl
 have ho:Outside s.length (AS.mk hp s) (AS.mk hp s):=Outside.refl (Nat.le_refl _)
 obtain ⟨env1,x1a,x1b,x1c,x1d⟩:=rA cx env (AS.mk hp s) hlen hcx
 have f0:=(x1d 0 (by decide)).trans f0
 have f1:=(x1d 1 (by decide)).trans f1
 have f2:=(x1d 2 (by decide)).trans f2
 have f6:=x1c
 have k1:=new_c hp s me n
 obtain ⟨hp1,h1e⟩: ∃x,x=hp++ [.cells (cellsL (clampMe me) (clampM n) idleL .nilm .nilm)]:=⟨_,rfl⟩
 rw[←h1e] at k1
 have k2:=rnew_c hp1 s me n
 obtain ⟨hp2,h2e⟩: ∃x,x=hp1++ [.cells (cellsR (clampMe me) (clampM n) idleR .nils .nils .nils)]:=⟨_,rfl⟩
 rw[←h2e] at k2
 obtain ⟨env2,x2a,x2b,x2c,x2d⟩:=rB cx env1 (AS.mk hp s) me n hp.length hp1.length hp1 hp2 hp s x1b hcx f0 f1 rfl rfl k1 k2
 have f0:=(x2d 0 (by decide)).trans f0
 have f1:=(x2d 1 (by decide)).trans f1
 have f2:=(x2d 2 (by decide)).trans f2
 have f6:=(x2d 6 (by decide)).trans f6
 have f7:=x2c.1
 have f8:=x2c.2
 have hl1:hp1.length=hp.length+1:=by rw[h1e]; simp
 have hA:hp2[hp.length]?=some (.cells (cellsL (clampMe me) (clampM n) idleL .nilm .nilm)):=by rw[h2e,List.getElem?_append_left (by omega),h1e]; simp
 have hB:hp2[hp1.length]?=some (.cells (cellsR (clampMe me) (clampM n) idleR .nils .nils .nils)):=by rw[h2e]; simp
 have hT:Two hp2 hp.length hp1.length (clampMe me) (clampM n) idleL idleR:=⟨[],[], .inl ⟨rfl,rfl,hA⟩,⟨.nils, .nils, .nils,[],[],[],{oB:=hB,hX:= .inl ⟨rfl,rfl,rfl⟩,hA:= .inl ⟨rfl,rfl,rfl⟩,hO:= .inl ⟨rfl,rfl,rfl⟩,n1:=by simp,n2:=by simp,n3:=by simp,d12:=by simp,d13:=by simp,d23:=by simp},rfl⟩,fun i hi hj=>by
  rw[List.mem_singleton] at hi hj
  omega⟩
 have hcn:1≤clampM n∧clampM n≤5:=by unfold clampM; omega
 have hcm:0≤clampMe me∧clampMe me<5:=by unfold clampMe; omega
 have hl0:=(hZ ⟨hp2,s⟩).1
 rw[List.length_map] at hl0
 obtain ⟨env3,x3a,x3b,x3c,x3d⟩:=rC cx env2 (AS.mk hp2 s) _ l.length x2b hcx f2 hl0
 have f0:=(x3d 0 (by decide)).trans f0
 have f1:=(x3d 1 (by decide)).trans f1
 have f2:=(x3d 2 (by decide)).trans f2
 have f6:=(x3d 6 (by decide)).trans f6
 have f7:=(x3d 7 (by decide)).trans f7
 have f8:=(x3d 8 (by decide)).trans f8
 have f20:=x3c.1
 have f21:=x3c.2.1
 have f22:=x3c.2.2
 obtain ⟨e4,env4,σ4,x4a,x4p⟩:=loopo cx hcx hro ⟨hp2,s⟩ hp.length hp1.length (clampMe me) (clampM n) Z l rfl hcn hcm hZ hok hll (hll) (σ:=AS.mk hp2 s) x3b f22 f21 (⟨f7,f8,f20,rfl,Nat.le_refl _,idleL,idleR,hT,rel_idle,Nat.zero_le _,Nat.zero_le _,fun p hp=>by cases hp⟩)
 rcases x4p with ⟨rfl,⟨x4b,f7,f8,f20,ho⟩ | x4p⟩ | ⟨x4q,x4r,x4p⟩
 ·skip
  obtain ⟨u1,u2,_⟩:=ho
  obtain ⟨env5,x5a,x5b,x5c,x5d⟩:=rZ cx env4 σ4 x4b hcx (awake_c _ _)
  have f7:=(x5d 7 (by decide)).trans f7
  have f8:=(x5d 8 (by decide)).trans f8
  have f20:=(x5d 20 (by decide)).trans f20
  have f6:=x5c
  exact ⟨_,call_of (fl:={tails:= [2000006]}) (fn:=Try.f4) (c:=bodyC) (env:=env) (e:=(.ret,(env5,σ4))) rfl Try.func4 body henv (by unfold bodyC; exact (execW_seq_of x1a (execW_seq_of x2a (execW_seq_of (execW_seq_of x3a x4a) (execW_seq_of x5a (by rfl)))))) ((fin_tmp (k:=6) (w:= .bool true) (.inl rfl) rfl rfl f6 (by simp[AV.back]) (by simp[AV.inb])))⟩
 ·skip
  obtain ⟨_,x4b,u1,u2⟩:=x4p
  obtain ⟨env5,x5a,x5b,x5c,x5d⟩:=rZ cx env4 σ4 x4b hcx (awake_c _ _)
  have f6:=x5c
  exact ⟨_,call_of (fl:={tails:= [2000006]}) (fn:=Try.f4) (c:=bodyC) (env:=env) (e:=(.ret,(env5,σ4))) rfl Try.func4 body henv (by unfold bodyC; exact (execW_seq_of x1a (execW_seq_of x2a (execW_seq_of (execW_seq_of x3a x4a) (execW_seq_of x5a (by rfl)))))) ((fin_tmp (k:=6) (w:= .bool true) (.inl rfl) rfl rfl f6 (by simp[AV.back]) (by simp[AV.inb])))⟩
 ·exact absurd x4p.1 x4r
end LPlays
