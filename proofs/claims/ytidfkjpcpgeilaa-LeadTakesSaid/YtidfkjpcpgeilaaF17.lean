/- Walk 17. -/

import Derived.Test.YtidfkjpcpgeilaaF16
open Go Go.Abs Go.Proofs
set_option maxRecDepth 100000
set_option maxHeartbeats 4000000
set_option linter.unusedSimpArgs false
set_option linter.unusedVariables false
open Ldr
theorem takes_1 (fr:Int) (v:List Vt):prR 3 (begR 0 0 fr) 1 (0+1) 0 v=(takeR (begR 0 0 fr) 1 v,false):=by
 simp[prR,askedR,begR,takeR]
theorem takes_2 (fr:Int) (v w:List Vt):prR 3 (takeR (begR 0 0 fr) 1 v) 2 (0+1) 0 w=(leadR (takeR (takeR (begR 0 0 fr) 1 v) 2 w),true):=by
 simp[prR,askedR,begR,takeR]
theorem takes_p1 (hp s:List AObj) (a:Nat) (fr:Int) (v:List Vt) (F:List Nat) (h:StL hp a 0 3 (begL 0 0 fr) F) (q:0≤fr∧fr≤400) (hv:v.length≤1000):
  ∃hp' F' p',callW Try.prog how 10 [.ptr (.hp a) 0, .int .i64 1, .agg [.int .u64 (0+1), .int .i64 0],slV 4 (v.map encVt)] ⟨hp,s⟩ none=some (.bool false,⟨hp',s⟩)∧StL hp' a 0 3 p' F'∧Rel 3 p' (takeR (begR 0 0 fr) 1 v):=by
 have hR:Rel 3 (begL 0 0 fr) (begR 0 0 fr):=rel_beg (by decide) q
 obtain ⟨hp',F',k,hL,_⟩:=LProm.ok hp s a 0 3 1 (0+1) 0 v _ F h hR.prok hR.fr0 (fun h=>⟨(hR.ask h).2.2.2.1,(hR.ask h).2.2.1⟩) hv
 obtain ⟨r1,r2⟩:=rel_prom hR (by decide) 1 (0+1) 0 v
 rw[takes_1] at r1 r2
 rw[r2] at k
 exact ⟨hp',F',_,k,hL,r1⟩
theorem takes_p2 (hp s:List AObj) (a:Nat) (fr:Int) (v w:List Vt) (p:Lv) (F:List Nat) (h:StL hp a 0 3 p F) (hR:Rel 3 p (takeR (begR 0 0 fr) 1 v)) (hv:w.length≤1000):
  ∃hp' F' p',callW Try.prog how 10 [.ptr (.hp a) 0, .int .i64 2, .agg [.int .u64 (0+1), .int .i64 0],slV 4 (w.map encVt)] ⟨hp,s⟩ none=some (.bool true,⟨hp',s⟩)∧StL hp' a 0 3 p' F'∧Rel 3 p' (leadR (takeR (takeR (begR 0 0 fr) 1 v) 2 w)):=by
 obtain ⟨hp',F',k,hL,_⟩:=LProm.ok hp s a 0 3 2 (0+1) 0 w _ F h hR.prok hR.fr0 (fun h=>⟨(hR.ask h).2.2.2.1,(hR.ask h).2.2.1⟩) hv
 obtain ⟨r1,r2⟩:=rel_prom hR (by decide) 2 (0+1) 0 w
 rw[takes_2] at r1 r2
 rw[r2] at k
 exact ⟨hp',F',_,k,hL,r1⟩
namespace LTakes
noncomputable def cr (p:List Dir):Code:=sub p (bodyOf Try.f3)
section
attribute [local simp] ofV ofCell ofCells seqA_nil seqA_cons seqVK_eq seqEK_eq wantedA yieldedA isVal effA ev evs evps putE optsA optsOk valA fieldAddrA fieldA loadA partA aggA isAggD buildA placesA fillA lay storeA AV.withCells buildSliceA elemsA rowParts fzL promL okE isSrc bytesOk pushA cxOf lenA binA intBinA strBinA unA indexAddrA eqA AVs.inb AV.inb Loc.inb calleeA opsOf sub bodyOf Env.get_set quietA_nil quietA_cons quietK_none quietK_some qstep newA isNew escNew boxOk newLoc flat rowPartsQ quietN quietOp isBS List.takeWhile finishA_eq finK_ret finK_normal retK backK resA oneA AV.back AVs.back execW_seq_eq seqK_normal seqK_ret seqK_exit execW_cond_eq condK_true condK_false execW_block_eq blockK_exit blockK_normal blockK_ret execW_region_eq regK_eq execW_skip execW_exit execW_ret regionA_plain regionA_quiet0 tailK_eq nilCheckA guardOk isConst lookupA keyFits mapUpdateA beqI bneI
theorem rA (cx:Cx) (env:Env) (σ:AS) (hlen:env.length=125) (hcx:cx.esc= [61]):
  Pc Try.prog how cx [] 125 [6] (cr [.l]) env σ (.normal) (σ) (fun env'=>Env.get env' 6= .bool false):=by
 refine pc_of fun res hr=>?_
 simp -implicitDefEqProofs [AS.get_push_at,AS.get_push_old,AS.push_len,AS.set_st_len,AS.next_st',AS.set_push_at,AS.get_set_self,AS.get_set_other,cr,Try.f3,hlen,hcx] at hr
 subst hr
 refine ⟨_,rfl,by simp[hlen],by simp[Env.get_set,hlen],fun i hi=>?_⟩
 simp only[List.mem_cons,List.not_mem_nil,or_false,not_or] at hi
 simp only[putE,get_set2,hi,false_and,if_false]
theorem rB (cx:Cx) (env:Env) (σ:AS) (a:Nat) (hp1:List AObj) (hp s:List AObj) (hlen:env.length=125) (hcx:cx.esc= [61]) (hσ:σ=⟨hp,s⟩) (hro0:cx.ro=none) (k1:callW Try.prog how 6 [.int .i64 0, .int .i64 3] ⟨hp,s⟩ none=some (.ptr (.hp a) 0,⟨hp1,s⟩)):
  Pc Try.prog how cx [] 125 [7,18] (cr [.r, .l]) env σ (.normal) (AS.mk hp1 s) (fun env'=>Env.get env' 7= .ptr (.hp a) 0):=by
 refine pc_of fun res hr=>?_
 simp -implicitDefEqProofs [AS.get_push_at,AS.get_push_old,AS.push_len,AS.set_st_len,AS.next_st',AS.set_push_at,AS.get_set_self,AS.get_set_other,cr,Try.f3,hlen,hcx,hσ,hro0,k1] at hr
 subst hr
 refine ⟨_,rfl,by simp[hlen],by simp[Env.get_set,hlen,hσ,hro0,k1],fun i hi=>?_⟩
 simp only[List.mem_cons,List.not_mem_nil,or_false,not_or] at hi
 simp only[putE,get_set2,hi,false_and,if_false]
theorem rC (cx:Cx) (env:Env) (σ:AS) (a:Nat) (fr x y e:Int) (hp1:List AObj) (hp s:List AObj) (hlen:env.length=125) (hcx:cx.esc= [61]) (f2:Env.get env 2= .int .i64 fr) (f7:Env.get env 7= .ptr (.hp a) 0) (hσ:σ=⟨hp,s⟩) (hro0:cx.ro=none) (hh:cx.h≤s.length) (k1:callW Try.prog how 7 [.ptr (.hp a) 0, .agg [.int .u64 0, .int .i64 0], .int .i64 fr] ⟨hp,s⟩ none=some (.tup [.agg [.int .u64 x, .int .i64 y], .int .i64 e],⟨hp1,s⟩)):
  Pc Try.prog how cx [] 125 [8,9,19,20,21,22,23,24,25] (cr [.r, .r, .l]) env σ (.normal) (AS.mk hp1 (s++ [.cells [.int .u64 x, .int .i64 y]])) (fun env'=>Env.get env' 8= .ptr (.st s.length) 0∧Env.get env' 9= .int .i64 e):=by
 refine pc_of fun res hr=>?_
 simp -implicitDefEqProofs [AS.get_push_at,AS.get_push_old,AS.push_len,AS.set_st_len,AS.next_st',AS.set_push_at,AS.get_set_self,AS.get_set_other,cr,Try.f3,hlen,hcx,f2,f7,hσ,hro0,hh,k1,wok] at hr
 subst hr
 refine ⟨_,rfl,by simp[hlen],by simp[Env.get_set,hlen,f2,f7,hσ,hro0,hh,k1,wok],fun i hi=>?_⟩
 simp only[List.mem_cons,List.not_mem_nil,or_false,not_or] at hi
 simp only[putE,get_set2,hi,false_and,if_false]
theorem r3a (cx:Cx) (env:Env) (σ:AS) (fr:Int) (hlen:env.length=125) (hcx:cx.esc= [61]) (f2:Env.get env 2= .int .i64 fr) (p1:fr<0) (p2: ¬0≤fr):
  Pc Try.prog how cx [] 125 [26,27,28,29,30,31] (cr [.r, .r, .r, .l, .l]) env σ (.normal) (σ) (fun env'=>Env.get env' 31= .bool true):=by
 refine pc_of fun res hr=>?_
 simp -implicitDefEqProofs [AS.get_push_at,AS.get_push_old,AS.push_len,AS.set_st_len,AS.next_st',AS.set_push_at,AS.get_set_self,AS.get_set_other,cr,Try.f3,hlen,hcx,f2,p1,p2] at hr
 subst hr
 refine ⟨_,rfl,by simp[hlen],by simp[Env.get_set,hlen,f2,p1,p2],fun i hi=>?_⟩
 simp only[List.mem_cons,List.not_mem_nil,or_false,not_or] at hi
 simp only[putE,get_set2,hi,false_and,if_false]
theorem r3b (cx:Cx) (env:Env) (σ:AS) (fr:Int) (hlen:env.length=125) (hcx:cx.esc= [61]) (f2:Env.get env 2= .int .i64 fr) (p1:0≤fr) (p2:400<fr) (p3: ¬fr<0):
  Pc Try.prog how cx [] 125 [26,27,28,29,30,31] (cr [.r, .r, .r, .l, .l]) env σ (.normal) (σ) (fun env'=>Env.get env' 31= .bool true):=by
 refine pc_of fun res hr=>?_
 simp -implicitDefEqProofs [AS.get_push_at,AS.get_push_old,AS.push_len,AS.set_st_len,AS.next_st',AS.set_push_at,AS.get_set_self,AS.get_set_other,cr,Try.f3,hlen,hcx,f2,p1,p2,p3] at hr
 subst hr
 refine ⟨_,rfl,by simp[hlen],by simp[Env.get_set,hlen,f2,p1,p2,p3],fun i hi=>?_⟩
 simp only[List.mem_cons,List.not_mem_nil,or_false,not_or] at hi
 simp only[putE,get_set2,hi,false_and,if_false]
theorem r3f (cx:Cx) (env:Env) (σ:AS) (fr:Int) (hlen:env.length=125) (hcx:cx.esc= [61]) (f2:Env.get env 2= .int .i64 fr) (p1:0≤fr) (p2: ¬400<fr) (p3: ¬fr<0):
  Pc Try.prog how cx [] 125 [26,27,28,29,30,31] (cr [.r, .r, .r, .l, .l]) env σ (.normal) (σ) (fun env'=>Env.get env' 31= .bool false):=by
 refine pc_of fun res hr=>?_
 simp -implicitDefEqProofs [AS.get_push_at,AS.get_push_old,AS.push_len,AS.set_st_len,AS.next_st',AS.set_push_at,AS.get_set_self,AS.get_set_other,cr,Try.f3,hlen,hcx,f2,p1,p2,p3] at hr
 subst hr
 refine ⟨_,rfl,by simp[hlen],by simp[Env.get_set,hlen,f2,p1,p2,p3],fun i hi=>?_⟩
 simp only[List.mem_cons,List.not_mem_nil,or_false,not_or] at hi
 simp only[putE,get_set2,hi,false_and,if_false]
theorem r4 (cx:Cx) (env:Env) (σ:AS) (hlen:env.length=125) (hcx:cx.esc= [61]) (f9:Env.get env 9= .int .i64 1) (k1:callW Try.prog how 8 [] σ cx.ro=some (.bool true,σ)):
  Pc Try.prog how cx [] 125 [6,32,33,34,35,36] (cr [.r, .r, .r, .l, .r, .l, .l]) env σ (.normal) (σ) (fun env'=>Env.get env' 6= .bool true):=by
 refine pc_of fun res hr=>?_
 simp -implicitDefEqProofs [AS.get_push_at,AS.get_push_old,AS.push_len,AS.set_st_len,AS.next_st',AS.set_push_at,AS.get_set_self,AS.get_set_other,cr,Try.f3,hlen,hcx,f9,k1] at hr
 subst hr
 refine ⟨_,rfl,by simp[hlen],by simp[Env.get_set,hlen,f9,k1],fun i hi=>?_⟩
 simp only[List.mem_cons,List.not_mem_nil,or_false,not_or] at hi
 simp only[putE,get_set2,hi,false_and,if_false]
theorem r5 (cx:Cx) (env:Env) (σ:AS) (X V:AV) (hlen:env.length=125) (hcx:cx.esc= [61]) (f0:Env.get env 0=X) (k1:callW Try.prog how 9 [X] σ cx.ro=some (.tup [V,V],σ)):
  Pc Try.prog how cx [] 125 [10,11,37,38,39,40,41] (cr [.r, .r, .r, .r, .l]) env σ (.normal) (σ) (fun env'=>Env.get env' 10=V∧Env.get env' 11=V):=by
 refine pc_of fun res hr=>?_
 simp -implicitDefEqProofs [AS.get_push_at,AS.get_push_old,AS.push_len,AS.set_st_len,AS.next_st',AS.set_push_at,AS.get_set_self,AS.get_set_other,cr,Try.f3,hlen,hcx,f0,k1] at hr
 subst hr
 refine ⟨_,rfl,by simp[hlen],by simp[Env.get_set,hlen,f0,k1],fun i hi=>?_⟩
 simp only[List.mem_cons,List.not_mem_nil,or_false,not_or] at hi
 simp only[putE,get_set2,hi,false_and,if_false]
theorem r6 (cx:Cx) (env:Env) (σ:AS) (X V:AV) (hlen:env.length=125) (hcx:cx.esc= [61]) (f1:Env.get env 1=X) (k1:callW Try.prog how 9 [X] σ cx.ro=some (.tup [V,V],σ)):
  Pc Try.prog how cx [] 125 [12,13,42,43,44,45,46] (cr [.r, .r, .r, .r, .r, .l]) env σ (.normal) (σ) (fun env'=>Env.get env' 12=V∧Env.get env' 13=V):=by
 refine pc_of fun res hr=>?_
 simp -implicitDefEqProofs [AS.get_push_at,AS.get_push_old,AS.push_len,AS.set_st_len,AS.next_st',AS.set_push_at,AS.get_set_self,AS.get_set_other,cr,Try.f3,hlen,hcx,f1,k1] at hr
 subst hr
 refine ⟨_,rfl,by simp[hlen],by simp[Env.get_set,hlen,f1,k1],fun i hi=>?_⟩
 simp only[List.mem_cons,List.not_mem_nil,or_false,not_or] at hi
 simp only[putE,get_set2,hi,false_and,if_false]
theorem r7 (cx:Cx) (env:Env) (σ:AS) (a i:Nat) (x y:Int) (V W:AV) (hp1 hp2:List AObj) (hp s:List AObj) (hlen:env.length=125) (hcx:cx.esc= [61]) (f7:Env.get env 7= .ptr (.hp a) 0) (f8:Env.get env 8= .ptr (.st i) 0) (f10:Env.get env 10=V) (f12:Env.get env 12=W) (hσ:σ=⟨hp,s⟩) (hro0:cx.ro=none) (gi: ∀H,(AS.mk H s).get (.st i)=some (.cells [.int .u64 x, .int .i64 y])) (k1:callW Try.prog how 10 [.ptr (.hp a) 0, .int .i64 1, .agg [.int .u64 x, .int .i64 y],V] ⟨hp,s⟩ none=some (.bool false,⟨hp1,s⟩)) (k2:callW Try.prog how 10 [.ptr (.hp a) 0, .int .i64 2, .agg [.int .u64 x, .int .i64 y],W] ⟨hp1,s⟩ none=some (.bool true,⟨hp2,s⟩)):
  Pc Try.prog how cx [] 125 [47,48,49,50,51,52,53,54,55,56,57] (cr [.r, .r, .r, .r, .r, .r, .l, .l]) env σ (.normal) (AS.mk hp2 s) (fun env'=>Env.get env' 57= .bool false):=by
 refine pc_of fun res hr=>?_
 simp -implicitDefEqProofs [AS.get_push_at,AS.get_push_old,AS.push_len,AS.set_st_len,AS.next_st',AS.set_push_at,AS.get_set_self,AS.get_set_other,cr,Try.f3,hlen,hcx,f7,f8,f10,f12,hσ,hro0,gi,k1,k2] at hr
 subst hr
 refine ⟨_,rfl,by simp[hlen],by simp[Env.get_set,hlen,f7,f8,f10,f12,hσ,hro0,gi,k1,k2],fun i hi=>?_⟩
 simp only[List.mem_cons,List.not_mem_nil,or_false,not_or] at hi
 simp only[putE,get_set2,hi,false_and,if_false]
theorem r9 (cx:Cx) (env:Env) (σ:AS) (fr:Int) (hp s:List AObj) (hlen:env.length=125) (hcx:cx.esc= [61]) (f2:Env.get env 2= .int .i64 fr) (hσ:σ=⟨hp,s⟩) (hro0:cx.ro=none):
  Pc Try.prog how cx [] 125 [14,58,59,60,61] (cr [.r, .r, .r, .r, .r, .r, .r, .l]) env σ (.normal) (AS.mk (hp++ [.cells [.int .i64 0, .int .i64 3, .int .i64 1, .int .u64 1, .int .i64 0, .int .i64 fr, .nils, .nils, .nils, .int .i64 0]]) s) (fun env'=>Env.get env' 14= .ptr (.hp hp.length) 0):=by
 refine pc_of fun res hr=>?_
 simp -implicitDefEqProofs [AS.get_push_at,AS.get_push_old,AS.push_len,AS.set_st_len,AS.next_st',AS.set_push_at,AS.get_set_self,AS.get_set_other,cr,Try.f3,hlen,hcx,f2,hσ,hro0] at hr
 subst hr
 refine ⟨_,rfl,by simp[hlen],by simp[Env.get_set,hlen,f2,hσ,hro0],fun i hi=>?_⟩
 simp only[List.mem_cons,List.not_mem_nil,or_false,not_or] at hi
 simp only[putE,get_set2,hi,false_and,if_false]
theorem r10 (cx:Cx) (env:Env) (σ:AS) (b:Nat) (me n st br bn fr nx:Int) (XP XA XO:AV) (V:AV) (z:Bool) (hp1:List AObj) (hp s:List AObj) (hlen:env.length=125) (hcx:cx.esc= [61]) (f14:Env.get env 14= .ptr (.hp b) 0) (f11:Env.get env 11=V) (hX1:XP.one=true) (hA1:XA.one=true) (hO1:XO.one=true) (hσ:σ=⟨hp,s⟩) (hro0:cx.ro=none) (hB:(AS.mk hp s).get (.hp b)=some (.cells [.int .i64 me, .int .i64 n, .int .i64 st, .int .u64 br, .int .i64 bn, .int .i64 fr,XP,XA,XO, .int .i64 nx])) (k1:callW Try.prog how 11 [.ptr (.hp b) 0, .int .i64 1, .agg [.int .u64 br, .int .i64 bn],V] ⟨hp,s⟩ none=some (.bool z,⟨hp1,s⟩)):
  Pc Try.prog how cx [] 125 [62,63,64,65,66,67,68] (cr [.r, .r, .r, .r, .r, .r, .r, .r, .l]) env σ (.normal) (AS.mk hp1 s) (fun _=>True):=by
 refine pc_of fun res hr=>?_
 simp -implicitDefEqProofs [AS.get_push_at,AS.get_push_old,AS.push_len,AS.set_st_len,AS.next_st',AS.set_push_at,AS.get_set_self,AS.get_set_other,cr,Try.f3,hlen,hcx,f14,f11,hX1,hA1,hO1,hσ,hro0,hB,k1] at hr
 subst hr
 refine ⟨_,rfl,by simp[hlen],by simp[Env.get_set,hlen,f14,f11,hX1,hA1,hO1,hσ,hro0,hB,k1],fun i hi=>?_⟩
 simp only[List.mem_cons,List.not_mem_nil,or_false,not_or] at hi
 simp only[putE,get_set2,hi,false_and,if_false]
theorem r11 (cx:Cx) (env:Env) (σ:AS) (b:Nat) (me n st br bn fr nx:Int) (XP XA XO:AV) (V:AV) (z:Bool) (hp1:List AObj) (hp s:List AObj) (hlen:env.length=125) (hcx:cx.esc= [61]) (f14:Env.get env 14= .ptr (.hp b) 0) (f13:Env.get env 13=V) (hX1:XP.one=true) (hA1:XA.one=true) (hO1:XO.one=true) (hσ:σ=⟨hp,s⟩) (hro0:cx.ro=none) (hB:(AS.mk hp s).get (.hp b)=some (.cells [.int .i64 me, .int .i64 n, .int .i64 st, .int .u64 br, .int .i64 bn, .int .i64 fr,XP,XA,XO, .int .i64 nx])) (k1:callW Try.prog how 11 [.ptr (.hp b) 0, .int .i64 2, .agg [.int .u64 br, .int .i64 bn],V] ⟨hp,s⟩ none=some (.bool z,⟨hp1,s⟩)):
  Pc Try.prog how cx [] 125 [69,70,71,72,73,74,75] (cr [.r, .r, .r, .r, .r, .r, .r, .r, .r, .l]) env σ (.normal) (AS.mk hp1 s) (fun _=>True):=by
 refine pc_of fun res hr=>?_
 simp -implicitDefEqProofs [AS.get_push_at,AS.get_push_old,AS.push_len,AS.set_st_len,AS.next_st',AS.set_push_at,AS.get_set_self,AS.get_set_other,cr,Try.f3,hlen,hcx,f14,f13,hX1,hA1,hO1,hσ,hro0,hB,k1] at hr
 subst hr
 refine ⟨_,rfl,by simp[hlen],by simp[Env.get_set,hlen,f14,f13,hX1,hA1,hO1,hσ,hro0,hB,k1],fun i hi=>?_⟩
 simp only[List.mem_cons,List.not_mem_nil,or_false,not_or] at hi
 simp only[putE,get_set2,hi,false_and,if_false]
theorem r12 (cx:Cx) (env:Env) (σ:AS) (a:Nat) (V:AV) (hp1:List AObj) (hp s:List AObj) (hlen:env.length=125) (hcx:cx.esc= [61]) (f7:Env.get env 7= .ptr (.hp a) 0) (hσ:σ=⟨hp,s⟩) (hro0:cx.ro=none) (k1:callW Try.prog how 12 [.ptr (.hp a) 0] ⟨hp,s⟩ none=some (V,⟨hp1,s⟩)):
  Pc Try.prog how cx [] 125 [15,76,77] (cr [.r, .r, .r, .r, .r, .r, .r, .r, .r, .r, .l]) env σ (.normal) (AS.mk hp1 s) (fun env'=>Env.get env' 15=V):=by
 refine pc_of fun res hr=>?_
 simp -implicitDefEqProofs [AS.get_push_at,AS.get_push_old,AS.push_len,AS.set_st_len,AS.next_st',AS.set_push_at,AS.get_set_self,AS.get_set_other,cr,Try.f3,hlen,hcx,f7,hσ,hro0,k1] at hr
 subst hr
 refine ⟨_,rfl,by simp[hlen],by simp[Env.get_set,hlen,f7,hσ,hro0,k1],fun i hi=>?_⟩
 simp only[List.mem_cons,List.not_mem_nil,or_false,not_or] at hi
 simp only[putE,get_set2,hi,false_and,if_false]
theorem r13 (cx:Cx) (env:Env) (σ:AS) (b:Nat) (me n st br bn fr nx:Int) (XP XA XO:AV) (a:Nat) (V:AV) (n1 n2:Nat) (hp s:List AObj) (hlen:env.length=125) (hcx:cx.esc= [61]) (f7:Env.get env 7= .ptr (.hp a) 0) (f14:Env.get env 14= .ptr (.hp b) 0) (f15:Env.get env 15=V) (hX1:XP.one=true) (hA1:XA.one=true) (hO1:XO.one=true) (hσ:σ=⟨hp,s⟩) (hB:(AS.mk hp s).get (.hp b)=some (.cells [.int .i64 me, .int .i64 n, .int .i64 st, .int .u64 br, .int .i64 bn, .int .i64 fr,XP,XA,XO, .int .i64 nx])) (h1l:lenA Try.prog ⟨hp,s⟩ 32 V=some n1) (h2l:lenA Try.prog ⟨hp,s⟩ 40 XO=some n2) (he:n1=n2) (k1:callW Try.prog how 13 [.ptr (.hp a) 0] ⟨hp,s⟩ (some s.length)=some (.int .i64 nx,⟨hp,s⟩)):
  Pc Try.prog how cx [] 125 [78,79,80,81,82,83,84,85,86,87,88,89,90,91,92,93,94] (cr [.r, .r, .r, .r, .r, .r, .r, .r, .r, .r, .r, .l, .l]) env σ (.normal) (AS.mk hp s) (fun env'=>Env.get env' 94= .bool false):=by
 refine pc_of fun res hr=>?_
 simp -implicitDefEqProofs [-lenA,AS.get_push_at,AS.get_push_old,AS.push_len,AS.set_st_len,AS.next_st',AS.set_push_at,AS.get_set_self,AS.get_set_other,cr,Try.f3,hlen,hcx,f7,f14,f15,hX1,hA1,hO1,hσ,hB,h1l,h2l,he,k1] at hr
 subst hr
 refine ⟨_,rfl,by simp[hlen],by simp[Env.get_set,hlen,f7,f14,f15,hX1,hA1,hO1,hσ,hB,h1l,h2l,he,k1],fun i hi=>?_⟩
 simp only[List.mem_cons,List.not_mem_nil,or_false,not_or] at hi
 simp only[putE,get_set2,hi,false_and,if_false]
theorem r15 (cx:Cx) (env:Env) (σ:AS) (b:Nat) (me n st br bn fr nx:Int) (XP XA XO:AV) (n2:Nat) (hlen:env.length=125) (hcx:cx.esc= [61]) (f14:Env.get env 14= .ptr (.hp b) 0) (hX1:XP.one=true) (hA1:XA.one=true) (hO1:XO.one=true) (hB:σ.get (.hp b)=some (.cells [.int .i64 me, .int .i64 n, .int .i64 st, .int .u64 br, .int .i64 bn, .int .i64 fr,XP,XA,XO, .int .i64 nx])) (h2l:lenA Try.prog σ 40 XO=some n2):
  Pc Try.prog how cx [] 125 [95,96,97,98,99,100] (cr [.r, .r, .r, .r, .r, .r, .r, .r, .r, .r, .r, .r, .l, .l]) env σ (.normal) (σ) (fun env'=>Env.get env' 98=XO∧Env.get env' 99= .int .i64 (n2:Int)∧Env.get env' 100= .int .i64 0):=by
 refine pc_of fun res hr=>?_
 simp -implicitDefEqProofs [-lenA,AS.get_push_at,AS.get_push_old,AS.push_len,AS.set_st_len,AS.next_st',AS.set_push_at,AS.get_set_self,AS.get_set_other,cr,Try.f3,hlen,hcx,f14,hX1,hA1,hO1,hB,h2l] at hr
 subst hr
 refine ⟨_,rfl,by simp[hlen],by simp[Env.get_set,hlen,f14,hX1,hA1,hO1,hB,h2l],fun i hi=>?_⟩
 simp only[List.mem_cons,List.not_mem_nil,or_false,not_or] at hi
 simp only[putE,get_set2,hi,false_and,if_false]
theorem rI (cx:Cx) (env:Env) (σ:AS) (k:Nat) (Z pp:AV) (x:Int) (v:ByteArray) (hlen:env.length=125) (hcx:cx.esc= [61]) (f98:Env.get env 98=Z) (f100:Env.get env 100= .int .i64 (k:Int)) (hia:indexAddrA Try.prog σ 40 Z (.int .i64 (k:Int))=some pp) (hpa:loadA Try.prog σ 47 pp=some (.agg [.int .i64 x, .str v])) (hw:wok cx.ro (.st σ.st.length)=true) (hh:cx.h≤σ.st.length):
  Pc Try.prog how cx [] 125 [16,17,102,103,104] (cr [.r, .r, .r, .r, .r, .r, .r, .r, .r, .r, .r, .r, .l, .r, .i, .i, .r, .r, .l, .i, .l]) env σ (.normal) (σ.push false (.cells [.int .i64 x, .str v])) (fun env'=>Env.get env' 16= .int .i64 (k:Int)∧Env.get env' 17= .ptr (.st σ.st.length) 0):=by
 refine pc_of fun res hr=>?_
 simp -implicitDefEqProofs [-indexAddrA,-loadA,AS.get_push_at,AS.get_push_old,AS.push_len,AS.set_st_len,AS.next_st',AS.set_push_at,AS.get_set_self,AS.get_set_other,cr,Try.f3,hlen,hcx,f98,f100,hia,hpa,hw,hh] at hr
 subst hr
 refine ⟨_,rfl,by simp[hlen],by simp[Env.get_set,hlen,f98,f100,hia,hpa,hw,hh],fun i hi=>?_⟩
 simp only[List.mem_cons,List.not_mem_nil,or_false,not_or] at hi
 simp only[putE,get_set2,hi,false_and,if_false]
theorem rJ (cx:Cx) (env:Env) (σ:AS) (br bn:Int) (k c:Nat) (V:AV) (x:Int) (v:ByteArray) (hlen:env.length=125) (hcx:cx.esc= [61]) (f15:Env.get env 15=V) (f16:Env.get env 16= .int .i64 (k:Int)) (f17:Env.get env 17= .ptr (.st c) 0) (gc:σ.get (.st c)=some (.cells [.int .i64 x, .str v])) (hia:indexAddrA Try.prog σ 32 V (.int .i64 (k:Int))=some (.rptr [.int .i64 x, .int .u64 br, .int .i64 bn, .str v] 0)):
  Pc Try.prog how cx [] 125 [105,106,107,108,109,110,111,112,113,114,115,116,117,118,119,120,121,122] (cr [.r, .r, .r, .r, .r, .r, .r, .r, .r, .r, .r, .r, .l, .r, .i, .i, .r, .r, .l, .i, .r, .l]) env σ (.normal) (σ) (fun env'=>Env.get env' 122= .bool false):=by
 refine pc_of fun res hr=>?_
 simp -implicitDefEqProofs [-indexAddrA,AS.get_push_at,AS.get_push_old,AS.push_len,AS.set_st_len,AS.next_st',AS.set_push_at,AS.get_set_self,AS.get_set_other,cr,Try.f3,hlen,hcx,f15,f16,f17,gc,hia,beqS_dec] at hr
 subst hr
 refine ⟨_,rfl,by simp[hlen],by simp[Env.get_set,hlen,f15,f16,f17,gc,hia,beqS_dec],fun i hi=>?_⟩
 simp only[List.mem_cons,List.not_mem_nil,or_false,not_or] at hi
 simp only[putE,get_set2,hi,false_and,if_false]
theorem rZ (cx:Cx) (env:Env) (σ:AS) (hlen:env.length=125) (hcx:cx.esc= [61]) (k1:callW Try.prog how 8 [] σ cx.ro=some (.bool true,σ)):
  Pc Try.prog how cx [] 125 [6,124] (cr [.r, .r, .r, .r, .r, .r, .r, .r, .r, .r, .r, .r, .r, .l]) env σ (.normal) (σ) (fun env'=>Env.get env' 6= .bool true):=by
 refine pc_of fun res hr=>?_
 simp -implicitDefEqProofs [AS.get_push_at,AS.get_push_old,AS.push_len,AS.set_st_len,AS.next_st',AS.set_push_at,AS.get_set_self,AS.get_set_other,cr,Try.f3,hlen,hcx,k1] at hr
 subst hr
 refine ⟨_,rfl,by simp[hlen],by simp[Env.get_set,hlen,k1],fun i hi=>?_⟩
 simp only[List.mem_cons,List.not_mem_nil,or_false,not_or] at hi
 simp only[putE,get_set2,hi,false_and,if_false]
end
noncomputable def bodyC:Code:=(.seq (cr [.l]) (.seq (cr [.r, .l]) (.seq (cr [.r, .r, .l]) (.seq (.seq (cr [.r, .r, .r, .l, .l]) (.cond (.tmp 31) (.seq (cr [.r, .r, .r, .l, .r, .l, .l]) .ret) .skip)) (.seq (cr [.r, .r, .r, .r, .l]) (.seq (cr [.r, .r, .r, .r, .r, .l]) (.seq (.seq (cr [.r, .r, .r, .r, .r, .r, .l, .l]) (cr [.r, .r, .r, .r, .r, .r, .l, .r])) (.seq (cr [.r, .r, .r, .r, .r, .r, .r, .l]) (.seq (cr [.r, .r, .r, .r, .r, .r, .r, .r, .l]) (.seq (cr [.r, .r, .r, .r, .r, .r, .r, .r, .r, .l]) (.seq (cr [.r, .r, .r, .r, .r, .r, .r, .r, .r, .r, .l]) (.seq (.seq (cr [.r, .r, .r, .r, .r, .r, .r, .r, .r, .r, .r, .l, .l]) (cr [.r, .r, .r, .r, .r, .r, .r, .r, .r, .r, .r, .l, .r])) (.seq (.seq (cr [.r, .r, .r, .r, .r, .r, .r, .r, .r, .r, .r, .r, .l, .l]) (cr [.r, .r, .r, .r, .r, .r, .r, .r, .r, .r, .r, .r, .l, .r])) (.seq (cr [.r, .r, .r, .r, .r, .r, .r, .r, .r, .r, .r, .r, .r, .l]) .ret))))))))))))))
theorem body:Try.f3.body=some bodyC:=by kernel_rfl
def Ji (h:Nat) (σ0:AS) (a b:Nat) (me n st br bn fr nx:Int) (XP XA XO:AV) (op:List (Int×ByteArray)) (k:Nat) (env:Env) (σ:AS):Prop:=
 Env.get env 7= .ptr (.hp a) 0∧Env.get env 14= .ptr (.hp b) 0∧Env.get env 15=(slV 4 ((op.map (rowV br bn)).map encVt))∧Env.get env 98=XO∧Outside h σ0 σ
def Exi (h:Nat) (σ0:AS) (a b:Nat) (me n st br bn fr nx:Int) (XP XA XO:AV) (op:List (Int×ByteArray)) (e:AExit) (env:Env) (σ:AS):Prop:=False
theorem Ji_stable {h:Nat} {σ0:AS} {a b:Nat} {me n st br bn fr nx:Int} {XP XA XO:AV} {op:List (Int×ByteArray)}: ∀k env env' σ,env.length=125→env'.length=125→(∀i,i≠101→i≠123→i≠100→Env.get env' i=Env.get env i)→Ji h σ0 a b me n st br bn fr nx XP XA XO op k env σ→Ji h σ0 a b me n st br bn fr nx XP XA XO op k env' σ:=by
 rintro k env env' σ _ _ hf ⟨j7,j14,j15,j98,ho⟩
 exact ⟨(hf 7 (by decide) (by decide) (by decide)).trans j7,(hf 14 (by decide) (by decide) (by decide)).trans j14,(hf 15 (by decide) (by decide) (by decide)).trans j15,(hf 98 (by decide) (by decide) (by decide)).trans j98,ho⟩
noncomputable def oTi:Oper:=(opsOf (cr [.r, .r, .r, .r, .r, .r, .r, .r, .r, .r, .r, .r, .l, .r, .i, .i, .l])).headD default
noncomputable def oIi:List Oper:=opsOf (cr [.r, .r, .r, .r, .r, .r, .r, .r, .r, .r, .r, .r, .l, .r, .i, .i, .r, .r, .r])
theorem loop_eqi:(cr [.r, .r, .r, .r, .r, .r, .r, .r, .r, .r, .r, .r, .l, .r])= .block 0 (.loop (.seq (.region 16 #[oTi] false) (.seq (.cond (.tmp 101) .skip (.exit 0)) (.seq (.block 1 (.seq (cr [.r, .r, .r, .r, .r, .r, .r, .r, .r, .r, .r, .r, .l, .r, .i, .i, .r, .r, .l, .i, .l]) (.seq (cr [.r, .r, .r, .r, .r, .r, .r, .r, .r, .r, .r, .r, .l, .r, .i, .i, .r, .r, .l, .i, .r, .l]) (cr [.r, .r, .r, .r, .r, .r, .r, .r, .r, .r, .r, .r, .l, .r, .i, .i, .r, .r, .l, .i, .r, .r])))) (.region 20 #[oIi.headD default,(oIi.drop 1).headD default] false))))):=by kernel_rfl
theorem stepi (cx:Cx) (hcx:cx.esc= [61]) (hro: ∀k,cx.ro=some k→k≤cx.h) (σ0:AS) (a b:Nat) (me n st br bn fr nx:Int) (XP XA XO:AV) (op:List (Int×ByteArray)) (hO: ∀st,Rd Try.prog ⟨σ0.hp,st⟩ 40 47 XO (op.map encRw)):
  ∀k env σ,k<op.length→env.length=125→Env.get env 100= .int .i64 (k:Int)→Env.get env 99= .int .i64 ((op.length:Nat):Int)→Ji cx.h σ0 a b me n st br bn fr nx XP XA XO op k env σ→ ∃e env' σ',execW Try.prog cx [] (callW Try.prog how) (.block 1 (.seq (cr [.r, .r, .r, .r, .r, .r, .r, .r, .r, .r, .r, .r, .l, .r, .i, .i, .r, .r, .l, .i, .l]) (.seq (cr [.r, .r, .r, .r, .r, .r, .r, .r, .r, .r, .r, .r, .l, .r, .i, .i, .r, .r, .l, .i, .r, .l]) (cr [.r, .r, .r, .r, .r, .r, .r, .r, .r, .r, .r, .r, .l, .r, .i, .i, .r, .r, .l, .i, .r, .r])))) (env,σ)=some (e,(env',σ'))∧
   ((e= .normal∧env'.length=125∧Env.get env' 100= .int .i64 (k:Int)∧Env.get env' 99= .int .i64 ((op.length:Nat):Int)∧Ji cx.h σ0 a b me n st br bn fr nx XP XA XO op (k+1) env' σ')∨(e≠ .normal∧Exi cx.h σ0 a b me n st br bn fr nx XP XA XO op e env' σ')):=by
 rintro k env σ hk hlen f100 f99 ⟨f7,f14,f15,f98,ho⟩
 have hOσ:Rd Try.prog σ 40 47 XO (op.map encRw):=by have:=hO σ.st; rw[←ho.1] at this; exact this
 obtain ⟨pp,hia,hpa⟩:=hOσ.2 k (encRw op[k]) (get_el hk)
 obtain ⟨env1,x1a,x1b,x1c,x1d⟩:=rI cx env σ k _ pp (op[k].1) (op[k].2) hlen hcx f98 f100 hia hpa (wokst hro ho.2.2) ho.2.2
 have f7:=(x1d 7 (by decide)).trans f7
 have f14:=(x1d 14 (by decide)).trans f14
 have f15:=(x1d 15 (by decide)).trans f15
 have f98:=(x1d 98 (by decide)).trans f98
 have f99:=(x1d 99 (by decide)).trans f99
 have f100:=(x1d 100 (by decide)).trans f100
 have f16:=x1c.1
 have f17:=x1c.2
 have g1:((σ:AS).push false (.cells [.int .i64 op[k].1, .str op[k].2])).get (.st (σ:AS).st.length)=some (.cells [.int .i64 op[k].1, .str op[k].2]):=AS.get_push_at rfl
 have ho:=ho.push (ob:= .cells [.int .i64 op[k].1, .str op[k].2])
 generalize hib1:(σ:AS).st.length=ib1 at g1 f17
 generalize (σ:AS).push false (.cells [.int .i64 op[k].1, .str op[k].2])=σ1 at x1a g1 ho
 have hiv:=idx_slV Try.prog σ1 32 49 4 (by simp) ((op.map (rowV br bn)).map encVt) k (encVt (rowV br bn op[k])) s49 (by decide) (by rw[List.map_map]; exact get_el hk)
 obtain ⟨env2,x2a,x2b,x2c,x2d⟩:=rJ cx env1 σ1 br bn k _ _ _ _ x1b hcx f15 f16 f17 g1 hiv
 have f7:=(x2d 7 (by decide)).trans f7
 have f14:=(x2d 14 (by decide)).trans f14
 have f15:=(x2d 15 (by decide)).trans f15
 have f16:=(x2d 16 (by decide)).trans f16
 have f17:=(x2d 17 (by decide)).trans f17
 have f98:=(x2d 98 (by decide)).trans f98
 have f99:=(x2d 99 (by decide)).trans f99
 have f100:=(x2d 100 (by decide)).trans f100
 have f122:=x2c
 have ev1:=ev_tmp f122
 exact ⟨.normal,env2,_,(execW_block_of (execW_seq_of x1a (execW_seq_of x2a (execW_cond_f ev1 (by rfl))))), .inl ⟨rfl,x2b,f100,f99,f7,f14,f15,f98,ho⟩⟩
theorem loopi (cx:Cx) (hcx:cx.esc= [61]) (hro: ∀k,cx.ro=some k→k≤cx.h) (σ0:AS) (a b:Nat) (me n st br bn fr nx:Int) (XP XA XO:AV) (op:List (Int×ByteArray)) (hO: ∀st,Rd Try.prog ⟨σ0.hp,st⟩ 40 47 XO (op.map encRw)) (hnn:op.length≤9223372036854775807) {env:Env} {σ:AS} (hl:env.length=125) (h1:Env.get env 100= .int .i64 0) (h2:Env.get env 99= .int .i64 ((op.length:Nat):Int)) (h0:Ji cx.h σ0 a b me n st br bn fr nx XP XA XO op 0 env σ):
  ∃e env' σ',execW Try.prog cx [] (callW Try.prog how) (cr [.r, .r, .r, .r, .r, .r, .r, .r, .r, .r, .r, .r, .l, .r]) (env,σ)=some (e,(env',σ'))∧((e= .normal∧((env'.length=125∧Ji cx.h σ0 a b me n st br bn fr nx XP XA XO op (op.length) env' σ')∨Exi cx.h σ0 a b me n st br bn fr nx XP XA XO op (.exit 0) env' σ'))∨(e≠ .normal∧e≠ .exit 0∧Exi cx.h σ0 a b me n st br bn fr nx XP XA XO op e env' σ')):=by
 rw[loop_eqi]
 exact range_std (Ex:=Exi cx.h σ0 a b me n st br bn fr nx XP XA XO op) (N:=125) (tc:=101) (ti:=100) (tl:=99) (tx:=123) (ty1:=3) (ty2:=3) (ty3:=3) (ty4:=3) ⟨by kernel_rfl,by kernel_rfl,by kernel_rfl⟩ ⟨by kernel_rfl,by kernel_rfl,by kernel_rfl⟩ ⟨by kernel_rfl,by kernel_rfl,by kernel_rfl⟩ (by decide) hnn Ji_stable (stepi cx hcx hro σ0 a b me n st br bn fr nx XP XA XO op hO) hl h1 h2 h0
theorem ok (hp s:List AObj) (X1 X2:AV) (l1 l2:List Vt) (fr:Int) (hS1: ∀σ,Rd Try.prog σ 22 84 X1 (l1.map encVt)) (hl1:l1.length≤9223372036854775807) (hS2: ∀σ,Rd Try.prog σ 22 84 X2 (l2.map encVt)) (hl2:l2.length≤9223372036854775807):
  ∃σ',callW Try.prog how 3 [X1,X2, .int .i64 fr] ⟨hp,s⟩ none=some (.bool true,σ'):=by
 let cx:Cx:={h:=s.length,ro:=none,esc:= [61]}
 have hcx:cx.esc= [61]:=rfl
 have hro: ∀k,cx.ro=some k→k≤cx.h:=fun k hk=>by cases hk
 obtain ⟨env,henv⟩: ∃e,e=frameA Try.f3 [X1,X2, .int .i64 fr]:=⟨_,rfl⟩
 have hlen:env.length=125:=by rw[henv]; rfl
 have f0:Env.get env 0=X1:=by rw[henv]; rfl
 have f1:Env.get env 1=X2:=by rw[henv]; rfl
 have f2:Env.get env 2= .int .i64 fr:=by rw[henv]; rfl
 have ho:Outside s.length (AS.mk hp s) (AS.mk hp s):=Outside.refl (Nat.le_refl _)
 obtain ⟨env1,x1a,x1b,x1c,x1d⟩:=rA cx env (AS.mk hp s) hlen hcx
 have f0:=(x1d 0 (by decide)).trans f0
 have f1:=(x1d 1 (by decide)).trans f1
 have f2:=(x1d 2 (by decide)).trans f2
 have f6:=x1c
 have k1:=new_c hp s 0 3
 rw[show clampMe 0=0 by decide,show clampM 3=3 by decide] at k1
 obtain ⟨hp1,h1e⟩: ∃x,x=hp++ [.cells (cellsL 0 3 idleL .nilm .nilm)]:=⟨_,rfl⟩
 rw[←h1e] at k1
 obtain ⟨env2,x2a,x2b,x2c,x2d⟩:=rB cx env1 (AS.mk hp s) hp.length hp1 hp s x1b hcx rfl rfl k1
 have f0:=(x2d 0 (by decide)).trans f0
 have f1:=(x2d 1 (by decide)).trans f1
 have f2:=(x2d 2 (by decide)).trans f2
 have f6:=(x2d 6 (by decide)).trans f6
 have f7:=x2c
 have hL0:StL hp1 hp.length 0 3 idleL []:= .inl ⟨rfl,rfl,by rw[h1e]; simp⟩
 rcases LBeg.ok hp1 s hp.length 0 3 0 0 fr idleL [] hL0 (by decide) (by decide) with ⟨q,kb⟩ | ⟨q,q2,kb⟩ | ⟨q,q2,hp2,F2,kb,hL2,hs2⟩
 ·skip
  obtain ⟨env3,x3a,x3b,x3c,x3d⟩:=rC cx env2 (AS.mk hp1 s) hp.length fr 0 0 1 hp1 hp1 s x2b hcx f2 f7 rfl rfl (Nat.le_refl _) kb
  have f0:=(x3d 0 (by decide)).trans f0
  have f1:=(x3d 1 (by decide)).trans f1
  have f2:=(x3d 2 (by decide)).trans f2
  have f6:=(x3d 6 (by decide)).trans f6
  have f7:=(x3d 7 (by decide)).trans f7
  have f8:=x3c.1
  have f9:=x3c.2
  rcases q with q | q
  ·skip
   obtain ⟨env4,x4a,x4b,x4c,x4d⟩:=r3a cx env3 (AS.mk hp1 (s++ [AObj.cells [.int .u64 0, .int .i64 0]])) fr x3b hcx f2 q (by omega)
   have f0:=(x4d 0 (by decide)).trans f0
   have f1:=(x4d 1 (by decide)).trans f1
   have f2:=(x4d 2 (by decide)).trans f2
   have f6:=(x4d 6 (by decide)).trans f6
   have f7:=(x4d 7 (by decide)).trans f7
   have f8:=(x4d 8 (by decide)).trans f8
   have f9:=(x4d 9 (by decide)).trans f9
   have f31:=x4c
   have ev1:=ev_tmp f31
   obtain ⟨env5,x5a,x5b,x5c,x5d⟩:=r4 cx env4 (AS.mk hp1 (s++ [AObj.cells [.int .u64 0, .int .i64 0]])) x4b hcx f9 (awake_c _ _)
   have f0:=(x5d 0 (by decide)).trans f0
   have f1:=(x5d 1 (by decide)).trans f1
   have f2:=(x5d 2 (by decide)).trans f2
   have f7:=(x5d 7 (by decide)).trans f7
   have f8:=(x5d 8 (by decide)).trans f8
   have f9:=(x5d 9 (by decide)).trans f9
   have f31:=(x5d 31 (by decide)).trans f31
   have f6:=x5c
   exact ⟨_,call_of (fl:={esc:= [61]}) (fn:=Try.f3) (c:=bodyC) (env:=env) (e:=(.ret,(env5,AS.mk hp1 (s++ [AObj.cells [.int .u64 0, .int .i64 0]])))) rfl Try.func3 body henv (by unfold bodyC; exact (execW_seq_of x1a (execW_seq_of x2a (execW_seq_of x3a (execW_seq_ret (execW_seq_of x4a (execW_cond_t ev1 (execW_seq_of x5a (by rfl))))))))) ((fin_tmp (k:=6) (w:= .bool true) (.inl rfl) rfl rfl f6 (by simp[AV.back]) (by simp[AV.inb])))⟩
  ·skip
   obtain ⟨env4,x4a,x4b,x4c,x4d⟩:=r3b cx env3 (AS.mk hp1 (s++ [AObj.cells [.int .u64 0, .int .i64 0]])) fr x3b hcx f2 (by omega) q (by omega)
   have f0:=(x4d 0 (by decide)).trans f0
   have f1:=(x4d 1 (by decide)).trans f1
   have f2:=(x4d 2 (by decide)).trans f2
   have f6:=(x4d 6 (by decide)).trans f6
   have f7:=(x4d 7 (by decide)).trans f7
   have f8:=(x4d 8 (by decide)).trans f8
   have f9:=(x4d 9 (by decide)).trans f9
   have f31:=x4c
   have ev1:=ev_tmp f31
   obtain ⟨env5,x5a,x5b,x5c,x5d⟩:=r4 cx env4 (AS.mk hp1 (s++ [AObj.cells [.int .u64 0, .int .i64 0]])) x4b hcx f9 (awake_c _ _)
   have f0:=(x5d 0 (by decide)).trans f0
   have f1:=(x5d 1 (by decide)).trans f1
   have f2:=(x5d 2 (by decide)).trans f2
   have f7:=(x5d 7 (by decide)).trans f7
   have f8:=(x5d 8 (by decide)).trans f8
   have f9:=(x5d 9 (by decide)).trans f9
   have f31:=(x5d 31 (by decide)).trans f31
   have f6:=x5c
   exact ⟨_,call_of (fl:={esc:= [61]}) (fn:=Try.f3) (c:=bodyC) (env:=env) (e:=(.ret,(env5,AS.mk hp1 (s++ [AObj.cells [.int .u64 0, .int .i64 0]])))) rfl Try.func3 body henv (by unfold bodyC; exact (execW_seq_of x1a (execW_seq_of x2a (execW_seq_of x3a (execW_seq_ret (execW_seq_of x4a (execW_cond_t ev1 (execW_seq_of x5a (by rfl))))))))) ((fin_tmp (k:=6) (w:= .bool true) (.inl rfl) rfl rfl f6 (by simp[AV.back]) (by simp[AV.inb])))⟩
 ·exact absurd q2 (by decide)
 ·skip
  obtain ⟨env3,x3a,x3b,x3c,x3d⟩:=rC cx env2 (AS.mk hp1 s) hp.length fr ((0+1)) 0 0 hp2 hp1 s x2b hcx f2 f7 rfl rfl (Nat.le_refl _) kb
  have f0:=(x3d 0 (by decide)).trans f0
  have f1:=(x3d 1 (by decide)).trans f1
  have f2:=(x3d 2 (by decide)).trans f2
  have f6:=(x3d 6 (by decide)).trans f6
  have f7:=(x3d 7 (by decide)).trans f7
  have f8:=x3c.1
  have f9:=x3c.2
  obtain ⟨env4,x4a,x4b,x4c,x4d⟩:=r3f cx env3 (AS.mk hp2 (s++ [AObj.cells [.int .u64 (0+1), .int .i64 0]])) fr x3b hcx f2 q.1 (by omega) (by omega)
  have f0:=(x4d 0 (by decide)).trans f0
  have f1:=(x4d 1 (by decide)).trans f1
  have f2:=(x4d 2 (by decide)).trans f2
  have f6:=(x4d 6 (by decide)).trans f6
  have f7:=(x4d 7 (by decide)).trans f7
  have f8:=(x4d 8 (by decide)).trans f8
  have f9:=(x4d 9 (by decide)).trans f9
  have f31:=x4c
  have ev1:=ev_tmp f31
  have kv1:=LVotes.ok hp2 (s++ [AObj.cells [.int .u64 (0+1), .int .i64 0]]) none X1 l1 (fun k hk=>by cases hk) hS1 hl1
  have kv2:=LVotes.ok hp2 (s++ [AObj.cells [.int .u64 (0+1), .int .i64 0]]) none X2 l2 (fun k hk=>by cases hk) hS2 hl2
  have hv1:(l1.take 12).length≤1000:=by rw[List.length_take]; omega
  have hv2:(l2.take 12).length≤1000:=by rw[List.length_take]; omega
  generalize hvs1:l1.take 12=v1 at*
  generalize hvs2:l2.take 12=v2 at*
  obtain ⟨env5,x5a,x5b,x5c,x5d⟩:=r5 cx env4 (AS.mk hp2 (s++ [AObj.cells [.int .u64 (0+1), .int .i64 0]])) X1 ((slV 4 (v1.map encVt))) x4b hcx f0 kv1
  have f0:=(x5d 0 (by decide)).trans f0
  have f1:=(x5d 1 (by decide)).trans f1
  have f2:=(x5d 2 (by decide)).trans f2
  have f6:=(x5d 6 (by decide)).trans f6
  have f7:=(x5d 7 (by decide)).trans f7
  have f8:=(x5d 8 (by decide)).trans f8
  have f9:=(x5d 9 (by decide)).trans f9
  have f31:=(x5d 31 (by decide)).trans f31
  have f10:=x5c.1
  have f11:=x5c.2
  obtain ⟨env6,x6a,x6b,x6c,x6d⟩:=r6 cx env5 (AS.mk hp2 (s++ [AObj.cells [.int .u64 (0+1), .int .i64 0]])) X2 ((slV 4 (v2.map encVt))) x5b hcx f1 kv2
  have f0:=(x6d 0 (by decide)).trans f0
  have f1:=(x6d 1 (by decide)).trans f1
  have f2:=(x6d 2 (by decide)).trans f2
  have f6:=(x6d 6 (by decide)).trans f6
  have f7:=(x6d 7 (by decide)).trans f7
  have f8:=(x6d 8 (by decide)).trans f8
  have f9:=(x6d 9 (by decide)).trans f9
  have f10:=(x6d 10 (by decide)).trans f10
  have f11:=(x6d 11 (by decide)).trans f11
  have f31:=(x6d 31 (by decide)).trans f31
  have f12:=x6c.1
  have f13:=x6c.2
  obtain ⟨hp3,F3,p1,kp1,hL3,hR1⟩:=takes_p1 hp2 (s++ [AObj.cells [.int .u64 (0+1), .int .i64 0]]) hp.length fr v1 F2 hL2 q hv1
  obtain ⟨hp4,F4,p2,kp2,hL4,hR2⟩:=takes_p2 hp3 (s++ [AObj.cells [.int .u64 (0+1), .int .i64 0]]) hp.length fr v1 v2 p1 F3 hL3 hR1 hv2
  obtain ⟨env7,x7a,x7b,x7c,x7d⟩:=r7 cx env6 (AS.mk hp2 (s++ [AObj.cells [.int .u64 (0+1), .int .i64 0]])) hp.length s.length ((0+1)) 0 ((slV 4 (v1.map encVt))) ((slV 4 (v2.map encVt))) hp3 hp4 hp2 ((s++ [AObj.cells [.int .u64 (0+1), .int .i64 0]])) x6b hcx f7 f8 f10 f12 rfl rfl (fun _=>by simp[AS.get]) kp1 kp2
  have f0:=(x7d 0 (by decide)).trans f0
  have f1:=(x7d 1 (by decide)).trans f1
  have f2:=(x7d 2 (by decide)).trans f2
  have f6:=(x7d 6 (by decide)).trans f6
  have f7:=(x7d 7 (by decide)).trans f7
  have f8:=(x7d 8 (by decide)).trans f8
  have f9:=(x7d 9 (by decide)).trans f9
  have f10:=(x7d 10 (by decide)).trans f10
  have f11:=(x7d 11 (by decide)).trans f11
  have f12:=(x7d 12 (by decide)).trans f12
  have f13:=(x7d 13 (by decide)).trans f13
  have f31:=(x7d 31 (by decide)).trans f31
  have f57:=x7c
  have ev2:=ev_tmp f57
  obtain ⟨hp5,h5e⟩: ∃x,x=hp4++ [AObj.cells [.int .i64 0, .int .i64 3, .int .i64 1, .int .u64 1, .int .i64 0, .int .i64 fr, .nils, .nils, .nils, .int .i64 0]]:=⟨_,rfl⟩
  obtain ⟨env8,x8a,x8b,x8c,x8d⟩:=r9 cx env7 (AS.mk hp4 (s++ [AObj.cells [.int .u64 (0+1), .int .i64 0]])) fr hp4 ((s++ [AObj.cells [.int .u64 (0+1), .int .i64 0]])) x7b hcx f2 rfl rfl
  have f0:=(x8d 0 (by decide)).trans f0
  have f1:=(x8d 1 (by decide)).trans f1
  have f2:=(x8d 2 (by decide)).trans f2
  have f6:=(x8d 6 (by decide)).trans f6
  have f7:=(x8d 7 (by decide)).trans f7
  have f8:=(x8d 8 (by decide)).trans f8
  have f9:=(x8d 9 (by decide)).trans f9
  have f10:=(x8d 10 (by decide)).trans f10
  have f11:=(x8d 11 (by decide)).trans f11
  have f12:=(x8d 12 (by decide)).trans f12
  have f13:=(x8d 13 (by decide)).trans f13
  have f31:=(x8d 31 (by decide)).trans f31
  have f57:=(x8d 57 (by decide)).trans f57
  have f14:=x8c
  rw[←h5e] at x8a
  have hL5:StL hp5 hp.length 0 3 p2 F4:=by rw[h5e]; exact hL4.keep (Kp.app hp4 _ []) (fun i _=>by simp)
  have hD5:StR hp5 hp4.length 0 3 (begR 0 0 fr) []:=⟨.nils, .nils, .nils,[],[],[],{oB:=by rw[h5e]; simp[cellsR,begR],hX:= .inl ⟨rfl,rfl,rfl⟩,hA:= .inl ⟨rfl,rfl,rfl⟩,hO:= .inl ⟨rfl,rfl,rfl⟩,n1:=by simp,n2:=by simp,n3:=by simp,d12:=by simp,d13:=by simp,d23:=by simp},rfl⟩
  have hd5: ∀i∈hp.length :: F4,i∉ [hp4.length]:=fun i hi hj=>by
   have:=hL4.lt i hi
   rw[List.mem_singleton] at hj
   omega
  obtain ⟨hp6,G6,k6,hD6,hs6⟩:=RProm.ok hp5 (s++ [AObj.cells [.int .u64 (0+1), .int .i64 0]]) hp4.length 0 3 1 (0+1) 0 v1 (begR 0 0 fr) [] hD5 q (fun _=>rfl) (fun p hp=>by cases hp) (by simp[begR]) hv1
  rw[takes_1] at hD6
  obtain ⟨F6,G6,hL6,hD6,hd6⟩:=two_r hD6 hs6 hL5 hd5
  obtain ⟨hp7,G7,k7,hD7,hs7⟩:=RProm.ok hp6 (s++ [AObj.cells [.int .u64 (0+1), .int .i64 0]]) hp4.length 0 3 2 (0+1) 0 v2 (takeR (begR 0 0 fr) 1 v1) G6 hD6 q (fun _=>rfl) (fun p hp=>by
   simp only[takeR,begR,List.nil_append,List.mem_singleton] at hp
   rw[hp]
   exact hv1) (by simp[takeR,begR]) hv2
  rw[takes_2] at hD7
  have hD5c:=hD5
  have hD6c:=hD6
  obtain ⟨F7,G7,hL7,hD7,hd7⟩:=two_r hD7 hs7 hL6 hd6
  have hr5:(takeR (begR 0 0 fr) 1 v1).br=0+1:=rfl
  obtain ⟨W1,W2,W3,_,_,_,hw,_⟩:=hD6c
  obtain ⟨env9,x9a,x9b,x9c,x9d⟩:=r10 cx env8 (AS.mk hp5 (s++ [AObj.cells [.int .u64 (0+1), .int .i64 0]])) hp4.length 0 3 1 ((0+1)) 0 fr 0 .nils .nils .nils ((slV 4 (v1.map encVt))) _ hp6 hp5 ((s++ [AObj.cells [.int .u64 (0+1), .int .i64 0]])) x8b hcx f14 f11 rfl rfl rfl rfl rfl (by rw[h5e]; simp[AS.get,cellsR,begR]) k6
  have f0:=(x9d 0 (by decide)).trans f0
  have f1:=(x9d 1 (by decide)).trans f1
  have f2:=(x9d 2 (by decide)).trans f2
  have f6:=(x9d 6 (by decide)).trans f6
  have f7:=(x9d 7 (by decide)).trans f7
  have f8:=(x9d 8 (by decide)).trans f8
  have f9:=(x9d 9 (by decide)).trans f9
  have f10:=(x9d 10 (by decide)).trans f10
  have f11:=(x9d 11 (by decide)).trans f11
  have f12:=(x9d 12 (by decide)).trans f12
  have f13:=(x9d 13 (by decide)).trans f13
  have f14:=(x9d 14 (by decide)).trans f14
  have f31:=(x9d 31 (by decide)).trans f31
  have f57:=(x9d 57 (by decide)).trans f57
  obtain ⟨env10,x10a,x10b,x10c,x10d⟩:=r11 cx env9 (AS.mk hp6 (s++ [AObj.cells [.int .u64 (0+1), .int .i64 0]])) hp4.length 0 3 _ ((0+1)) 0 _ _ W1 W2 W3 ((slV 4 (v2.map encVt))) _ hp7 hp6 ((s++ [AObj.cells [.int .u64 (0+1), .int .i64 0]])) x9b hcx f14 f13 hw.hX.one hw.hA.one hw.hO.one rfl rfl hw.oB k7
  have f0:=(x10d 0 (by decide)).trans f0
  have f1:=(x10d 1 (by decide)).trans f1
  have f2:=(x10d 2 (by decide)).trans f2
  have f6:=(x10d 6 (by decide)).trans f6
  have f7:=(x10d 7 (by decide)).trans f7
  have f8:=(x10d 8 (by decide)).trans f8
  have f9:=(x10d 9 (by decide)).trans f9
  have f10:=(x10d 10 (by decide)).trans f10
  have f11:=(x10d 11 (by decide)).trans f11
  have f12:=(x10d 12 (by decide)).trans f12
  have f13:=(x10d 13 (by decide)).trans f13
  have f14:=(x10d 14 (by decide)).trans f14
  have f31:=(x10d 31 (by decide)).trans f31
  have f57:=(x10d 57 (by decide)).trans f57
  generalize hr2:leadR (takeR (takeR (begR 0 0 fr) 1 v1) 2 v2)=r2 at*
  have hst:r2.st=2:=by rw[←hr2]; rfl
  obtain ⟨hp8,ko,hL8,hk8⟩:=LOpen.ok hp7 (s++ [AObj.cells [.int .u64 (0+1), .int .i64 0]]) hp.length 0 3 p2 F7 hL7 hR2.asc (fun e he=>by have:=hR2.lt e he; have:=hR2.nx0; omega) (by have:=hR2.len; omega)
  rw[opV_eq hL7 hR2] at ko
  obtain ⟨XP,XA,XO,J1,J2,J3,hDr,hGe⟩:=hD7
  have hD2:=hDr.keep hk8 fun i _=>by simp
  obtain ⟨env11,x11a,x11b,x11c,x11d⟩:=r12 cx env10 (AS.mk hp7 (s++ [AObj.cells [.int .u64 (0+1), .int .i64 0]])) hp.length ((slV 4 ((r2.op.map (rowV r2.br r2.bn)).map encVt))) hp8 hp7 ((s++ [AObj.cells [.int .u64 (0+1), .int .i64 0]])) x10b hcx f7 rfl rfl ko
  have f0:=(x11d 0 (by decide)).trans f0
  have f1:=(x11d 1 (by decide)).trans f1
  have f2:=(x11d 2 (by decide)).trans f2
  have f6:=(x11d 6 (by decide)).trans f6
  have f7:=(x11d 7 (by decide)).trans f7
  have f8:=(x11d 8 (by decide)).trans f8
  have f9:=(x11d 9 (by decide)).trans f9
  have f10:=(x11d 10 (by decide)).trans f10
  have f11:=(x11d 11 (by decide)).trans f11
  have f12:=(x11d 12 (by decide)).trans f12
  have f13:=(x11d 13 (by decide)).trans f13
  have f14:=(x11d 14 (by decide)).trans f14
  have f31:=(x11d 31 (by decide)).trans f31
  have f57:=(x11d 57 (by decide)).trans f57
  have f15:=x11c
  obtain ⟨B8,O8,hA8⟩:=hL8.at_
  have k5:=next_c hp8 (s++ [AObj.cells [.int .u64 (0+1), .int .i64 0]]) (some (s++ [AObj.cells [.int .u64 (0+1), .int .i64 0]]).length) hp.length 0 3 p2.st p2.br p2.bn p2.fr p2.pr p2.nx B8 O8 (fun k hk=>by cases hk; exact Nat.le_refl _) (fun _=>hA8)
  rw[if_pos (hR2.st.trans hst),hR2.nx] at k5
  have hlv:=len_slV Try.prog ⟨hp8,(s++ [AObj.cells [.int .u64 (0+1), .int .i64 0]])⟩ 32 49 4 (by simp) ((r2.op.map (rowV r2.br r2.bn)).map encVt)
  rw[List.length_map,List.length_map] at hlv
  have hlo:=(rdRw hD2.hO (s++ [AObj.cells [.int .u64 (0+1), .int .i64 0]])).1
  rw[List.length_map] at hlo
  obtain ⟨env12,x12a,x12b,x12c,x12d⟩:=r13 cx env11 (AS.mk hp8 (s++ [AObj.cells [.int .u64 (0+1), .int .i64 0]])) hp4.length 0 3 r2.st r2.br r2.bn r2.fr r2.nx XP XA XO hp.length _ r2.op.length r2.op.length hp8 ((s++ [AObj.cells [.int .u64 (0+1), .int .i64 0]])) x11b hcx f7 f14 f15 hD2.hX.one hD2.hA.one hD2.hO.one rfl hD2.oB hlv hlo rfl k5
  have f0:=(x12d 0 (by decide)).trans f0
  have f1:=(x12d 1 (by decide)).trans f1
  have f2:=(x12d 2 (by decide)).trans f2
  have f6:=(x12d 6 (by decide)).trans f6
  have f7:=(x12d 7 (by decide)).trans f7
  have f8:=(x12d 8 (by decide)).trans f8
  have f9:=(x12d 9 (by decide)).trans f9
  have f10:=(x12d 10 (by decide)).trans f10
  have f11:=(x12d 11 (by decide)).trans f11
  have f12:=(x12d 12 (by decide)).trans f12
  have f13:=(x12d 13 (by decide)).trans f13
  have f14:=(x12d 14 (by decide)).trans f14
  have f15:=(x12d 15 (by decide)).trans f15
  have f31:=(x12d 31 (by decide)).trans f31
  have f57:=(x12d 57 (by decide)).trans f57
  have f94:=x12c
  have ev3:=ev_tmp f94
  obtain ⟨env13,x13a,x13b,x13c,x13d⟩:=r15 cx env12 (AS.mk hp8 (s++ [AObj.cells [.int .u64 (0+1), .int .i64 0]])) hp4.length 0 3 r2.st r2.br r2.bn r2.fr r2.nx XP XA XO r2.op.length x12b hcx f14 hD2.hX.one hD2.hA.one hD2.hO.one hD2.oB hlo
  have f0:=(x13d 0 (by decide)).trans f0
  have f1:=(x13d 1 (by decide)).trans f1
  have f2:=(x13d 2 (by decide)).trans f2
  have f6:=(x13d 6 (by decide)).trans f6
  have f7:=(x13d 7 (by decide)).trans f7
  have f8:=(x13d 8 (by decide)).trans f8
  have f9:=(x13d 9 (by decide)).trans f9
  have f10:=(x13d 10 (by decide)).trans f10
  have f11:=(x13d 11 (by decide)).trans f11
  have f12:=(x13d 12 (by decide)).trans f12
  have f13:=(x13d 13 (by decide)).trans f13
  have f14:=(x13d 14 (by decide)).trans f14
  have f15:=(x13d 15 (by decide)).trans f15
  have f31:=(x13d 31 (by decide)).trans f31
  have f57:=(x13d 57 (by decide)).trans f57
  have f94:=(x13d 94 (by decide)).trans f94
  have f98:=x13c.1
  have f99:=x13c.2.1
  have f100:=x13c.2.2
  have ho:Outside cx.h (AS.mk hp8 (s++ [AObj.cells [.int .u64 (0+1), .int .i64 0]])) (AS.mk hp8 (s++ [AObj.cells [.int .u64 (0+1), .int .i64 0]])):=Outside.refl (by show s.length≤_; simp)
  obtain ⟨e14,env14,σ14,x14a,x14p⟩:=loopi cx hcx hro ⟨hp8,(s++ [AObj.cells [.int .u64 (0+1), .int .i64 0]])⟩ hp.length hp4.length 0 3 r2.st r2.br r2.bn r2.fr r2.nx XP XA XO r2.op (fun st=>rdRw hD2.hO st) (by have:=hR2.rlen; omega) (σ:=AS.mk hp8 (s++ [AObj.cells [.int .u64 (0+1), .int .i64 0]])) x13b f100 f99 (⟨f7,f14,f15,f98,ho⟩)
  rcases x14p with ⟨rfl,⟨x14b,f7,f14,f15,f98,ho⟩ | x14p⟩ | ⟨x14q,x14r,x14p⟩
  ·skip
   obtain ⟨env15,x15a,x15b,x15c,x15d⟩:=rZ cx env14 σ14 x14b hcx (awake_c _ _)
   have f7:=(x15d 7 (by decide)).trans f7
   have f14:=(x15d 14 (by decide)).trans f14
   have f15:=(x15d 15 (by decide)).trans f15
   have f98:=(x15d 98 (by decide)).trans f98
   have f6:=x15c
   exact ⟨_,call_of (fl:={esc:= [61]}) (fn:=Try.f3) (c:=bodyC) (env:=env) (e:=(.ret,(env15,σ14))) rfl Try.func3 body henv (by unfold bodyC; exact (execW_seq_of x1a (execW_seq_of x2a (execW_seq_of x3a (execW_seq_of (execW_seq_of x4a (execW_cond_f ev1 (by rfl))) (execW_seq_of x5a (execW_seq_of x6a (execW_seq_of (execW_seq_of x7a (execW_cond_f ev2 (by rfl))) (execW_seq_of x8a (execW_seq_of x9a (execW_seq_of x10a (execW_seq_of x11a (execW_seq_of (execW_seq_of x12a (execW_cond_f ev3 (by rfl))) (execW_seq_of (execW_seq_of x13a x14a) (execW_seq_of x15a (by rfl)))))))))))))))) ((fin_tmp (k:=6) (w:= .bool true) (.inl rfl) rfl rfl f6 (by simp[AV.back]) (by simp[AV.inb])))⟩
  ·cases x14p
  ·cases x14p
end LTakes
