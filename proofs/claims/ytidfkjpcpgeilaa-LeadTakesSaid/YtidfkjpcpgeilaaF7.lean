/- Walk 7. -/

import Derived.Test.YtidfkjpcpgeilaaF6
open Go Go.Abs Go.Proofs
set_option maxRecDepth 100000
set_option maxHeartbeats 4000000
set_option linter.unusedSimpArgs false
set_option linter.unusedVariables false
open Ldr
section
attribute [local simp] ofV ofCell ofCells seqA_nil seqA_cons seqVK_eq seqEK_eq wantedA yieldedA isVal effA ev evs evps putE optsA optsOk valA fieldAddrA fieldA loadA partA aggA isAggD buildA placesA fillA lay storeA AV.withCells buildSliceA elemsA rowParts fzL promL okE isSrc bytesOk pushA cxOf lenA binA intBinA strBinA unA indexAddrA eqA AVs.inb AV.inb Loc.inb calleeA opsOf sub bodyOf Env.get_set quietA_nil quietA_cons quietK_none quietK_some qstep newA isNew escNew boxOk newLoc flat rowPartsQ quietN quietOp isBS List.takeWhile finishA_eq finK_ret finK_normal retK backK resA oneA AV.back AVs.back execW_seq_eq seqK_normal seqK_ret seqK_exit execW_cond_eq condK_true condK_false execW_block_eq blockK_exit blockK_normal blockK_ret execW_region_eq regK_eq execW_skip execW_exit execW_ret regionA_plain regionA_quiet0 tailK_eq nilCheckA guardOk isConst lookupA keyFits mapUpdateA beqI bneI
theorem rprop_a (hp s:List AObj) (a:Nat) (me n st br bn fr nx:Int) (X A O:AV) (val:ByteArray) (hA: ∀s,(AS.mk hp s).get (.hp a)=some (.cells [.int .i64 me, .int .i64 n, .int .i64 st, .int .u64 br, .int .i64 bn, .int .i64 fr,X,A,O, .int .i64 nx])) (p1:64<(val.size:Int)):
  callW Try.prog how 36 [.ptr (.hp a) 0, .str val] ⟨hp,s⟩ none=some (.tup [.int .i64 0, .int .i64 1],⟨hp,s⟩):=by
 refine callW_body (fl:={tails:= [2000007]}) (fn:=Try.f36) (c:=bodyOf Try.f36) rfl Try.func36 rfl ?_
 have henv: ∃e,e=frameA Try.f36 [.ptr (.hp a) 0, .str val]:=⟨_,rfl⟩
 obtain ⟨env,henv⟩:=henv
 have hl:env.length=46:=by rw[henv]; rfl
 have h0:Env.get env 0= .ptr (.hp a) 0:=by rw[henv]; rfl
 have h1:Env.get env 1= .str val:=by rw[henv]; rfl
 rw[←henv]
 clear henv
 simp -implicitDefEqProofs [Try.f36,hl,h0,h1,hA,lenA,p1]
theorem rprop_b (hp s:List AObj) (a:Nat) (me n st br bn fr nx:Int) (X A O:AV) (val:ByteArray) (hA: ∀s,(AS.mk hp s).get (.hp a)=some (.cells [.int .i64 me, .int .i64 n, .int .i64 st, .int .u64 br, .int .i64 bn, .int .i64 fr,X,A,O, .int .i64 nx])) (p1: ¬64<(val.size:Int)) (p2: ¬st=2):
  callW Try.prog how 36 [.ptr (.hp a) 0, .str val] ⟨hp,s⟩ none=some (.tup [.int .i64 0, .int .i64 10],⟨hp,s⟩):=by
 refine callW_body (fl:={tails:= [2000007]}) (fn:=Try.f36) (c:=bodyOf Try.f36) rfl Try.func36 rfl ?_
 have henv: ∃e,e=frameA Try.f36 [.ptr (.hp a) 0, .str val]:=⟨_,rfl⟩
 obtain ⟨env,henv⟩:=henv
 have hl:env.length=46:=by rw[henv]; rfl
 have h0:Env.get env 0= .ptr (.hp a) 0:=by rw[henv]; rfl
 have h1:Env.get env 1= .str val:=by rw[henv]; rfl
 rw[←henv]
 clear henv
 simp -implicitDefEqProofs [Try.f36,hl,h0,h1,hA,lenA,p1,p2]
theorem rprop_c (hp s:List AObj) (a:Nat) (me n st br bn fr nx:Int) (X A O:AV) (val:ByteArray) (hA: ∀s,(AS.mk hp s).get (.hp a)=some (.cells [.int .i64 me, .int .i64 n, .int .i64 st, .int .u64 br, .int .i64 bn, .int .i64 fr,X,A,O, .int .i64 nx])) (p1: ¬64<(val.size:Int)) (p2:st=2) (p3:399<nx):
  callW Try.prog how 36 [.ptr (.hp a) 0, .str val] ⟨hp,s⟩ none=some (.tup [.int .i64 0, .int .i64 9],⟨hp,s⟩):=by
 refine callW_body (fl:={tails:= [2000007]}) (fn:=Try.f36) (c:=bodyOf Try.f36) rfl Try.func36 rfl ?_
 have henv: ∃e,e=frameA Try.f36 [.ptr (.hp a) 0, .str val]:=⟨_,rfl⟩
 obtain ⟨env,henv⟩:=henv
 have hl:env.length=46:=by rw[henv]; rfl
 have h0:Env.get env 0= .ptr (.hp a) 0:=by rw[henv]; rfl
 have h1:Env.get env 1= .str val:=by rw[henv]; rfl
 rw[←henv]
 clear henv
 simp -implicitDefEqProofs [Try.f36,hl,h0,h1,hA,lenA,p1,p2,p3]
end
theorem appO:AppOk Try.prog 40 2 24:=⟨47, .slice 47,by simp[elemA],by simp,by simp,by kernel_rfl,rfl,by decide,by simp[AV.cells]⟩
namespace RProp
noncomputable def cr (p:List Dir):Code:=sub p (bodyOf Try.f36)
section
attribute [local simp] ofV ofCell ofCells seqA_nil seqA_cons seqVK_eq seqEK_eq wantedA yieldedA isVal effA ev evs evps putE optsA optsOk valA fieldAddrA fieldA loadA partA aggA isAggD buildA placesA fillA lay storeA AV.withCells buildSliceA elemsA rowParts fzL promL okE isSrc bytesOk pushA cxOf lenA binA intBinA strBinA unA indexAddrA eqA AVs.inb AV.inb Loc.inb calleeA opsOf sub bodyOf Env.get_set quietA_nil quietA_cons quietK_none quietK_some qstep newA isNew escNew boxOk newLoc flat rowPartsQ quietN quietOp isBS List.takeWhile finishA_eq finK_ret finK_normal retK backK resA oneA AV.back AVs.back execW_seq_eq seqK_normal seqK_ret seqK_exit execW_cond_eq condK_true condK_false execW_block_eq blockK_exit blockK_normal blockK_ret execW_region_eq regK_eq execW_skip execW_exit execW_ret regionA_plain regionA_quiet0 tailK_eq nilCheckA guardOk isConst lookupA keyFits mapUpdateA beqI bneI mixZ_nil mixZ_cons mixKZ_eq tKZ_pre tKZ_eq tK_pre tK_eq vK_eq resv_eq stepZ_0 stepZ_1n stepZ_1s stepZ_2 stepZ_3 stepZ_4 stepZ_5 cutCall newZ tchkL agreeB Op.operands sameO truncM beq_bool beq_int beq_str beq_nilp beq_ptr beq_eptr beq_nils beq_row beq_nilm beq_map beq_agg beq_sl beqs_nil beqs_cons
theorem rA (cx:Cx) (env:Env) (σ:AS) (hlen:env.length=46) (hcx:cx.esc= []):
  Pc Try.prog how cx [2000007] 46 [4,5] (cr [.l]) env σ (.normal) (σ) (fun env'=>Env.get env' 4= .int .i64 0∧Env.get env' 5= .int .i64 0):=by
 refine pc_of fun res hr=>?_
 simp -implicitDefEqProofs [AS.get_push_at,AS.get_push_old,AS.push_len,AS.set_st_len,AS.next_st',AS.set_push_at,AS.get_set_self,AS.get_set_other,cr,Try.f36,hlen,hcx] at hr
 subst hr
 refine ⟨_,rfl,by simp[hlen],by simp[Env.get_set,hlen],fun i hi=>?_⟩
 simp only[List.mem_cons,List.not_mem_nil,or_false,not_or] at hi
 simp only[putE,get_set2,hi,false_and,if_false]
theorem r1 (cx:Cx) (env:Env) (σ:AS) (val:ByteArray) (hlen:env.length=46) (hcx:cx.esc= []) (f1:Env.get env 1= .str val) (p1: ¬64<(val.size:Int)):
  Pc Try.prog how cx [2000007] 46 [6,7,8] (cr [.r, .l, .l]) env σ (.normal) (σ) (fun env'=>Env.get env' 8= .bool false):=by
 refine pc_of fun res hr=>?_
 simp -implicitDefEqProofs [AS.get_push_at,AS.get_push_old,AS.push_len,AS.set_st_len,AS.next_st',AS.set_push_at,AS.get_set_self,AS.get_set_other,cr,Try.f36,hlen,hcx,f1,p1,lenA] at hr
 subst hr
 refine ⟨_,rfl,by simp[hlen],by simp[Env.get_set,hlen,f1,p1,lenA],fun i hi=>?_⟩
 simp only[List.mem_cons,List.not_mem_nil,or_false,not_or] at hi
 simp only[putE,get_set2,hi,false_and,if_false]
theorem r3 (cx:Cx) (env:Env) (σ:AS) (a:Nat) (me n st br bn fr nx:Int) (X A O:AV) (hlen:env.length=46) (hcx:cx.esc= []) (f0:Env.get env 0= .ptr (.hp a) 0) (p2:st=2) (hA:σ.get (.hp a)=some (.cells [.int .i64 me, .int .i64 n, .int .i64 st, .int .u64 br, .int .i64 bn, .int .i64 fr,X,A,O, .int .i64 nx])):
  Pc Try.prog how cx [2000007] 46 [9,10,11,12,13] (cr [.r, .r, .l, .l]) env σ (.normal) (σ) (fun env'=>Env.get env' 13= .bool false):=by
 refine pc_of fun res hr=>?_
 simp -implicitDefEqProofs [AS.get_push_at,AS.get_push_old,AS.push_len,AS.set_st_len,AS.next_st',AS.set_push_at,AS.get_set_self,AS.get_set_other,cr,Try.f36,hlen,hcx,f0,p2,hA] at hr
 subst hr
 refine ⟨_,rfl,by simp[hlen],by simp[Env.get_set,hlen,f0,p2,hA],fun i hi=>?_⟩
 simp only[List.mem_cons,List.not_mem_nil,or_false,not_or] at hi
 simp only[putE,get_set2,hi,false_and,if_false]
theorem r5 (cx:Cx) (env:Env) (σ:AS) (a:Nat) (me n st br bn fr nx:Int) (X A O:AV) (hlen:env.length=46) (hcx:cx.esc= []) (f0:Env.get env 0= .ptr (.hp a) 0) (p3: ¬399<nx) (hA:σ.get (.hp a)=some (.cells [.int .i64 me, .int .i64 n, .int .i64 st, .int .u64 br, .int .i64 bn, .int .i64 fr,X,A,O, .int .i64 nx])):
  Pc Try.prog how cx [2000007] 46 [14,15,16,17,18] (cr [.r, .r, .r, .l, .l]) env σ (.normal) (σ) (fun env'=>Env.get env' 18= .bool false):=by
 refine pc_of fun res hr=>?_
 simp -implicitDefEqProofs [AS.get_push_at,AS.get_push_old,AS.push_len,AS.set_st_len,AS.next_st',AS.set_push_at,AS.get_set_self,AS.get_set_other,cr,Try.f36,hlen,hcx,f0,p3,hA] at hr
 subst hr
 refine ⟨_,rfl,by simp[hlen],by simp[Env.get_set,hlen,f0,p3,hA],fun i hi=>?_⟩
 simp only[List.mem_cons,List.not_mem_nil,or_false,not_or] at hi
 simp only[putE,get_set2,hi,false_and,if_false]
noncomputable def mx_q:List Oper:=opsOf (cr [.r, .r, .r, .r, .l])
def mx_plan:List (Nat×List Nat):= [(0,[]),(0,[]),(0,[]),(0,[]),(1,[]),(0,[]),(0,[]),(0,[]),(2,[]),(0,[]),(0,[]),(3,[1,1]),(4,[0]),(0,[]),(0,[]),(4,[0])]
theorem mx_reg:(cr [.r, .r, .r, .r, .l])= .region 7 mx_q.toArray true:=by kernel_rfl
theorem mx_ok (h:Nat) (ro:Option Nat):planOkZ Try.prog (Cx.mk h ro []) mx_q mx_plan=true:=by kernel_rfl
theorem mx_lt:anyLT Try.prog mx_q=false:=by kernel_rfl
theorem mx_room (h:Nat) (ro:Option Nat):cntM Try.prog mx_q (newSt (Cx.mk h ro [])) 0 mx_q.length=1:=by kernel_rfl
theorem mx (h:Nat) (ro:Option Nat) (hp s:List AObj) (env:Env) (a:Nat) (me n st br bn fr nx:Int) (X A O:AV) (val:ByteArray) (R:AV) (hp1 st1 hp2 st2:List AObj) (hlen:env.length=46) (f0:Env.get env 0= .ptr (.hp a) 0) (f1:Env.get env 1= .str val) (hA: ∀s,(AS.mk hp s).get (.hp a)=some (.cells [.int .i64 me, .int .i64 n, .int .i64 st, .int .u64 br, .int .i64 bn, .int .i64 fr,X,A,O, .int .i64 nx])) (hO:O.one=true) (hbO:AV.beq O O=true) (hz: ∀σ,fzL ro σ [.int .i64 nx, .str val]=some ([.int .i64 nx, .str val],σ)) (hap:appendA Try.prog (Cx.mk h ro []) ⟨hp,s++ [.row [.agg [.int .i64 nx, .str val]] 2 0 false]⟩ [40,40] O (.row (.st s.length) 0 0 1)=some (R,⟨hp1,st1⟩)) (hst:storeA Try.prog (Cx.mk h ro []) ⟨hp1,st1⟩ 40 (.ptr (.hp a) 8) R=some ⟨hp2,st2⟩):
  Pc Try.prog how (Cx.mk h ro []) [2000007] 46 [19,20,21,22,23,24,25,26,27,28,29,30,31,32,33] (cr [.r, .r, .r, .r, .l]) env ⟨hp,s⟩ .normal ⟨hp2,st2⟩ (fun _=>True):=by
 refine pc_of fun res hr=>?_
 rw[mx_reg,execW_region_eq] at hr
 rw[show (mx_q.toArray).toList=mx_q from rfl,regionA_mix rfl rfl] at hr
 rw[mixA_planZ1 (mx_ok h ro) mx_lt,mx_room h ro] at hr
 simp -implicitDefEqProofs [mx_plan,-fzL,-storeA,mx_q,cr,Try.f36,hlen,f0,f1,hA,hO,hbO,hz,hap,hst,elemA,AS.set] at hr
 subst hr
 refine ⟨_,rfl,by simp[hlen],by simp[Env.get_set,hlen,f0,f1,hA,hO,hbO,hz,hap,hst,elemA,AS.set],fun i hi=>?_⟩
 simp only[List.mem_cons,List.not_mem_nil,or_false,not_or] at hi
 simp only[putE,get_set2,hi,false_and,if_false]
theorem r8 (cx:Cx) (env:Env) (σ:AS) (a:Nat) (me n st br bn fr nx:Int) (X A O:AV) (hp s:List AObj) (hlen:env.length=46) (hcx:cx.esc= []) (f0:Env.get env 0= .ptr (.hp a) 0) (hσ:σ=⟨hp,s⟩) (hro0:cx.ro=none) (hA:(AS.mk hp s).get (.hp a)=some (.cells [.int .i64 me, .int .i64 n, .int .i64 st, .int .u64 br, .int .i64 bn, .int .i64 fr,X,A,O, .int .i64 nx])) (hw:wr .i64 (nx+1)=nx+1):
  Pc Try.prog how cx [2000007] 46 [34,35,36,37,38,39,40] (cr [.r, .r, .r, .r, .r, .l]) env σ (.normal) (AS.mk (hp.set a (.cells [.int .i64 me, .int .i64 n, .int .i64 st, .int .u64 br, .int .i64 bn, .int .i64 fr,X,A,O, .int .i64 (nx+1)])) s) (fun _=>True):=by
 refine pc_of fun res hr=>?_
 simp -implicitDefEqProofs [AS.get_push_at,AS.get_push_old,AS.push_len,AS.set_st_len,AS.next_st',AS.set_push_at,AS.get_set_self,AS.get_set_other,cr,Try.f36,hlen,hcx,f0,hσ,hro0,hA,hw,AS.set,wok] at hr
 subst hr
 refine ⟨_,rfl,by simp[hlen],by simp[Env.get_set,hlen,f0,hσ,hro0,hA,hw,AS.set,wok],fun i hi=>?_⟩
 simp only[List.mem_cons,List.not_mem_nil,or_false,not_or] at hi
 simp only[putE,get_set2,hi,false_and,if_false]
theorem r9 (cx:Cx) (env:Env) (σ:AS) (a:Nat) (me n st br bn fr nx:Int) (X A O:AV) (hlen:env.length=46) (hcx:cx.esc= []) (f0:Env.get env 0= .ptr (.hp a) 0) (hA:σ.get (.hp a)=some (.cells [.int .i64 me, .int .i64 n, .int .i64 st, .int .u64 br, .int .i64 bn, .int .i64 fr,X,A,O, .int .i64 (nx+1)])) (hw:wr .i64 nx=nx):
  Pc Try.prog how cx [2000007] 46 [4,5,41,42,43,44,45] (cr [.r, .r, .r, .r, .r, .r, .l]) env σ (.normal) (σ) (fun env'=>Env.get env' 4= .int .i64 nx∧Env.get env' 5= .int .i64 0):=by
 refine pc_of fun res hr=>?_
 simp -implicitDefEqProofs [AS.get_push_at,AS.get_push_old,AS.push_len,AS.set_st_len,AS.next_st',AS.set_push_at,AS.get_set_self,AS.get_set_other,cr,Try.f36,hlen,hcx,f0,hA,hw] at hr
 subst hr
 refine ⟨_,rfl,by simp[hlen],by simp[Env.get_set,hlen,f0,hA,hw],fun i hi=>?_⟩
 simp only[List.mem_cons,List.not_mem_nil,or_false,not_or] at hi
 simp only[putE,get_set2,hi,false_and,if_false]
end
noncomputable def bodyC:Code:=(.seq (cr [.l]) (.seq (.seq (cr [.r, .l, .l]) (cr [.r, .l, .r])) (.seq (.seq (cr [.r, .r, .l, .l]) (cr [.r, .r, .l, .r])) (.seq (.seq (cr [.r, .r, .r, .l, .l]) (cr [.r, .r, .r, .l, .r])) (.seq (cr [.r, .r, .r, .r, .l]) (.seq (cr [.r, .r, .r, .r, .r, .l]) (.seq (cr [.r, .r, .r, .r, .r, .r, .l]) .ret)))))))
theorem body:Try.f36.body=some bodyC:=by kernel_rfl
theorem ok (hp s:List AObj) (a:Nat) (me n:Int) (r:Rv) (F:List Nat) (val:ByteArray) (h:StR hp a me n r F) (hl:r.op.length≤900) (hnx:0≤r.nx∧r.nx≤400):
  (propE r.st r.nx val≠0∧callW Try.prog how 36 [.ptr (.hp a) 0, .str val] ⟨hp,s⟩ none=some (.tup [.int .i64 0, .int .i64 (propE r.st r.nx val)],⟨hp,s⟩))∨
  (propE r.st r.nx val=0∧ ∃hp' F',callW Try.prog how 36 [.ptr (.hp a) 0, .str val] ⟨hp,s⟩ none=some (.tup [.int .i64 r.nx, .int .i64 0],⟨hp',s⟩)∧StR hp' a me n (propR r val) F'∧Stp hp hp' a F F'):=by
 let cx:Cx:={h:=s.length,ro:=none,esc:= []}
 have hcx:cx.esc= []:=rfl
 have hro: ∀k,cx.ro=some k→k≤cx.h:=fun k hk=>by cases hk
 obtain ⟨env,henv⟩: ∃e,e=frameA Try.f36 [.ptr (.hp a) 0, .str val]:=⟨_,rfl⟩
 have hlen:env.length=46:=by rw[henv]; rfl
 have f0:Env.get env 0= .ptr (.hp a) 0:=by rw[henv]; rfl
 have f1:Env.get env 1= .str val:=by rw[henv]; rfl
 have ho:Outside s.length (AS.mk hp s) (AS.mk hp s):=Outside.refl (Nat.le_refl _)
 obtain ⟨X,A,O,G1,G2,G3,hA,rfl⟩:=h
 have hal:=at_lt2 hA.oB
 by_cases p1:64<(val.size:Int)
 ·have e:propE r.st r.nx val=1:=by unfold propE; rw[if_pos p1]
  rw[e]
  exact .inl ⟨by decide,rprop_a hp s a me n r.st r.br r.bn r.fr r.nx X A O val (fun _=>hA.oB) p1⟩
 by_cases p2:r.st=2
 case neg=>
  have e:propE r.st r.nx val=10:=by unfold propE; rw[if_neg p1,if_pos p2]
  rw[e]
  exact .inl ⟨by decide,rprop_b hp s a me n r.st r.br r.bn r.fr r.nx X A O val (fun _=>hA.oB) p1 p2⟩
 by_cases p3:400≤r.nx
 ·have e:propE r.st r.nx val=9:=by unfold propE; rw[if_neg p1,if_neg (by omega),if_pos p3]
  rw[e]
  exact .inl ⟨by decide,rprop_c hp s a me n r.st r.br r.bn r.fr r.nx X A O val (fun _=>hA.oB) p1 p2 (by omega)⟩
 have e:propE r.st r.nx val=0:=by unfold propE; rw[if_neg p1,if_neg (by omega),if_neg p3]
 refine .inr ⟨e,?_⟩
 obtain ⟨env1,x1a,x1b,x1c,x1d⟩:=rA cx env (AS.mk hp s) hlen hcx
 have f0:=(x1d 0 (by decide)).trans f0
 have f1:=(x1d 1 (by decide)).trans f1
 have f4:=x1c.1
 have f5:=x1c.2
 obtain ⟨env2,x2a,x2b,x2c,x2d⟩:=r1 cx env1 (AS.mk hp s) val x1b hcx f1 p1
 have f0:=(x2d 0 (by decide)).trans f0
 have f1:=(x2d 1 (by decide)).trans f1
 have f4:=(x2d 4 (by decide)).trans f4
 have f5:=(x2d 5 (by decide)).trans f5
 have f8:=x2c
 have ev1:=ev_tmp f8
 obtain ⟨env3,x3a,x3b,x3c,x3d⟩:=r3 cx env2 (AS.mk hp s) a me n r.st r.br r.bn r.fr r.nx X A O x2b hcx f0 p2 hA.oB
 have f0:=(x3d 0 (by decide)).trans f0
 have f1:=(x3d 1 (by decide)).trans f1
 have f4:=(x3d 4 (by decide)).trans f4
 have f5:=(x3d 5 (by decide)).trans f5
 have f8:=(x3d 8 (by decide)).trans f8
 have f13:=x3c
 have ev2:=ev_tmp f13
 obtain ⟨env4,x4a,x4b,x4c,x4d⟩:=r5 cx env3 (AS.mk hp s) a me n r.st r.br r.bn r.fr r.nx X A O x3b hcx f0 (by omega) hA.oB
 have f0:=(x4d 0 (by decide)).trans f0
 have f1:=(x4d 1 (by decide)).trans f1
 have f4:=(x4d 4 (by decide)).trans f4
 have f5:=(x4d 5 (by decide)).trans f5
 have f8:=(x4d 8 (by decide)).trans f8
 have f13:=(x4d 13 (by decide)).trans f13
 have f18:=x4c
 have ev3:=ev_tmp f18
 have hz: ∀σ,fzL none σ [.int .i64 r.nx, .str val]=some ([.int .i64 r.nx, .str val],σ):=fun σ=>by simp[fzL]
 have hbO:AV.beq O O=true:=by
  rcases hA.hO with ⟨q,_⟩ | ⟨j,w,q,_⟩
  ·rw[q]; rfl
  ·rw[q]; simp[AV.beq]
 obtain ⟨R,hp1,st1,hp2,st2,z1,z2,z3,z4,z5,z6,z7,z8,O',F',z9,z10,z11⟩:=heap_append (cx:=Cx.mk s.length none []) (st:=s++ [.row [.agg [.int .i64 r.nx, .str val]] 2 0 false]) (k:=s.length) (x:=encRw (r.nx,val)) appO s40 rfl hA.hO (by simp[encRw]) (by rw[List.length_map]; omega) (by decide) hA.oB (o:=8) (by simp[cellsR]) hA.n3
 obtain ⟨env5,x5a,x5b,x5c,x5d⟩:=mx s.length none hp s env4 a me n r.st r.br r.bn r.fr r.nx X A O val R hp1 st1 hp2 st2 x4b f0 f1 (fun _=>hA.oB) hA.hO.one hbO hz z1 z2
 have f0:=(x5d 0 (by decide)).trans f0
 have f1:=(x5d 1 (by decide)).trans f1
 have f4:=(x5d 4 (by decide)).trans f4
 have f5:=(x5d 5 (by decide)).trans f5
 have f8:=(x5d 8 (by decide)).trans f8
 have f13:=(x5d 13 (by decide)).trans f13
 have f18:=(x5d 18 (by decide)).trans f18
 obtain ⟨env6,x6a,x6b,x6c,x6d⟩:=r8 cx env5 (AS.mk hp2 st2) a me n r.st r.br r.bn r.fr r.nx X A O' hp2 st2 x5b hcx f0 rfl rfl z9 (wr_ok (by omega) (by omega))
 have f0:=(x6d 0 (by decide)).trans f0
 have f1:=(x6d 1 (by decide)).trans f1
 have f4:=(x6d 4 (by decide)).trans f4
 have f5:=(x6d 5 (by decide)).trans f5
 have f8:=(x6d 8 (by decide)).trans f8
 have f13:=(x6d 13 (by decide)).trans f13
 have f18:=(x6d 18 (by decide)).trans f18
 have hl2:=at_lt2 z9
 obtain ⟨env7,x7a,x7b,x7c,x7d⟩:=r9 cx env6 (AS.mk (hp2.set a (.cells [.int .i64 me, .int .i64 n, .int .i64 r.st, .int .u64 r.br, .int .i64 r.bn, .int .i64 r.fr,X,A,O', .int .i64 (r.nx+1)])) st2) a me n r.st r.br r.bn r.fr r.nx X A O' x6b hcx f0 (List.getElem?_set_self hl2) (wr_ok (by omega) (by omega))
 have f0:=(x7d 0 (by decide)).trans f0
 have f1:=(x7d 1 (by decide)).trans f1
 have f8:=(x7d 8 (by decide)).trans f8
 have f13:=(x7d 13 (by decide)).trans f13
 have f18:=(x7d 18 (by decide)).trans f18
 have f4:=x7c.1
 have f5:=x7c.2
 have htk:st2.take s.length=s:=by
  have e1:st2.take s.length=(st2.take (s++ [AObj.row [.agg [.int .i64 r.nx, .str val]] 2 0 false]).length).take s.length:=by rw[List.take_take]; congr 1; simp
  rw[e1,z4]
  simp
 refine ⟨_,G1++G2++F',call_of (fl:={tails:= [2000007]}) (fn:=Try.f36) (c:=bodyC) (env:=env) (e:=(.ret,(env7,AS.mk (hp2.set a (.cells [.int .i64 me, .int .i64 n, .int .i64 r.st, .int .u64 r.br, .int .i64 r.bn, .int .i64 r.fr,X,A,O', .int .i64 (r.nx+1)])) st2))) rfl Try.func36 body henv (by unfold bodyC; exact (execW_seq_of x1a (execW_seq_of (execW_seq_of x2a (execW_cond_f ev1 (by rfl))) (execW_seq_of (execW_seq_of x3a (execW_cond_f ev2 (by rfl))) (execW_seq_of (execW_seq_of x4a (execW_cond_f ev3 (by rfl))) (execW_seq_of x5a (execW_seq_of x6a (execW_seq_of x7a (by rfl))))))))) ((fin_two (w:= .tup [.int .i64 r.nx, .int .i64 0]) (.inl rfl) rfl (v:= .int .i64 r.nx) (v':= .int .i64 0) (by simp[Try.f36,resA,f4,f5]) (by simp[AV.back,AVs.back]) (by simp[AV.inb,AVs.inb])).trans (congrArg (fun z=>some (_,AS.mk _ z)) htk)),⟨X,A,O',G1,G2,F',?_,rfl⟩,⟨Nat.le_trans z8.1 (by simp),fun i hi hn=>?_⟩,fun i hi=>?_⟩
 ·have hk:Kp hp (hp2.set a (.cells [.int .i64 me, .int .i64 n, .int .i64 r.st, .int .u64 r.br, .int .i64 r.bn, .int .i64 r.fr,X,A,O', .int .i64 (r.nx+1)])) (a :: G3):=z8.trans (Kp.set _ a _ _ (List.mem_cons_self ..))
  have hnF:a∉F':=fun h=>(z11 a h).elim hA.n3 (fun h2=>by omega)
  have e2:propR r val={r with op:=r.op++ [(r.nx,val)],nx:=r.nx+1}:=by unfold propR; rw[if_pos e]
  rw[e2]
  exact {
   oB:=List.getElem?_set_self hl2
   hX:=hA.hX.keep hk fun i hi=>by simp only[List.mem_cons,not_or]; exact ⟨fun e=>hA.n1 (by rw[←e]; exact hi),hA.d13 i hi⟩
   hA:=hA.hA.keep hk fun i hi=>by simp only[List.mem_cons,not_or]; exact ⟨fun e=>hA.n2 (by rw[←e]; exact hi),hA.d23 i hi⟩
   hO:=by
    have:((r.op++ [(r.nx,val)]).map encRw)=r.op.map encRw++ [encRw (r.nx,val)]:=by simp
    show HRw 2 _ O' ((r.op++ [(r.nx,val)]).map encRw) F'
    rw[this]
    exact z10.keep (Kp.set hp2 a _ [a] (List.mem_singleton_self _)) fun i hi=>by rw[List.mem_singleton]; exact fun e=>hnF (by rw[←e]; exact hi)
   n1:=hA.n1
   n2:=hA.n2
   n3:=hnF
   d12:=hA.d12
   d13:=fun i hi h=>(z11 i h).elim (hA.d13 i hi) (fun h2=>by have:=hA.hX.lt i hi; omega)
   d23:=fun i hi h=>(z11 i h).elim (hA.d23 i hi) (fun h2=>by have:=hA.hA.lt i hi; omega)}
 ·have hn':i≠a∧i∉G3:=by
   simp only[List.mem_cons,List.mem_append,not_or] at hn
   exact ⟨hn.1,hn.2.2⟩
  rw[List.getElem?_set_ne (fun e=>hn'.1 e.symm)]
  exact z8.2 i hi (by simp only[List.mem_cons,not_or]; exact hn')
 ·simp only[List.mem_append] at hi ⊢
  rcases hi with hi | hi
  ·exact .inl (.inl hi)
  ·rcases z11 i hi with h | h
   ·exact .inl (.inr h)
   ·exact .inr h
end RProp
