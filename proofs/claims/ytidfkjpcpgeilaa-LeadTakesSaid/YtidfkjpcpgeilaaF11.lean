/- Walk 11. -/

import Derived.Test.YtidfkjpcpgeilaaF10
open Go Go.Abs Go.Proofs
set_option maxRecDepth 100000
set_option maxHeartbeats 4000000
set_option linter.unusedSimpArgs false
set_option linter.unusedVariables false
open Ldr
def vtC (w:Vt):List AV:= [.int .i64 w.s, .int .u64 w.r, .int .i64 w.n, .str w.v]
def foldW (slot:Int) (vs:List Vt) (b:Option Vt):Option Vt:=vs.foldl (stepW slot) b
theorem foldW_succ {slot:Int} {vs:List Vt} {b:Option Vt} {k:Nat} (hk:k<vs.length):foldW slot (vs.take (k+1)) b=stepW slot (foldW slot (vs.take k) b) vs[k]:=by
 unfold foldW
 rw[List.take_succ_eq_append_getElem hk,List.foldl_append]
 rfl
theorem valueF_succ {slot:Int} {P:List (Int×List Vt)} {k:Nat} (hk:k<P.length):valueF (P.take (k+1)) slot=foldW slot P[k].2 (valueF (P.take k) slot):=by
 unfold valueF
 rw[List.take_succ_eq_append_getElem hk,List.foldl_append]
 rfl
theorem rdV2 (σ:AS) (vs:List Vt):Rd Try.prog σ 22 84 (slV 4 (vs.map encVt)) (vs.map encVt):=
 rd_slV (by simp) s84 (by decide) fun c hc=>by
  obtain ⟨v,_,rfl⟩:=List.mem_map.1 hc
  simp[partA,aggA,isAggD,encVt,AV.cells]
namespace RVal
noncomputable def cr (p:List Dir):Code:=sub p (bodyOf Try.f31)
section
attribute [local simp] ofV ofCell ofCells seqA_nil seqA_cons seqVK_eq seqEK_eq wantedA yieldedA isVal effA ev evs evps putE optsA optsOk valA fieldAddrA fieldA loadA partA aggA isAggD buildA placesA fillA lay storeA AV.withCells buildSliceA elemsA rowParts fzL promL okE isSrc bytesOk pushA cxOf lenA binA intBinA strBinA unA indexAddrA eqA AVs.inb AV.inb Loc.inb calleeA opsOf sub bodyOf Env.get_set quietA_nil quietA_cons quietK_none quietK_some qstep newA isNew escNew boxOk newLoc flat rowPartsQ quietN quietOp isBS List.takeWhile finishA_eq finK_ret finK_normal retK backK resA oneA AV.back AVs.back execW_seq_eq seqK_normal seqK_ret seqK_exit execW_cond_eq condK_true condK_false execW_block_eq blockK_exit blockK_normal blockK_ret execW_region_eq regK_eq execW_skip execW_exit execW_ret regionA_plain regionA_quiet0 tailK_eq nilCheckA guardOk isConst lookupA keyFits mapUpdateA beqI bneI
theorem rA (cx:Cx) (env:Env) (σ:AS) (hlen:env.length=50) (hcx:cx.esc= []):
  Pc Try.prog how cx [] 50 [4,5] (cr [.l]) env σ (.normal) (σ) (fun env'=>Env.get env' 4= .str ⟨#[]⟩∧Env.get env' 5= .bool false):=by
 refine pc_of fun res hr=>?_
 simp -implicitDefEqProofs [AS.get_push_at,AS.get_push_old,AS.push_len,AS.set_st_len,AS.next_st',AS.set_push_at,AS.get_set_self,AS.get_set_other,cr,Try.f31,hlen,hcx] at hr
 subst hr
 refine ⟨_,rfl,by simp[hlen],by simp[Env.get_set,hlen],fun i hi=>?_⟩
 simp only[List.mem_cons,List.not_mem_nil,or_false,not_or] at hi
 simp only[putE,get_set2,hi,false_and,if_false]
theorem rB (cx:Cx) (env:Env) (σ:AS) (hp s:List AObj) (hlen:env.length=50) (hcx:cx.esc= []) (hσ:σ=⟨hp,s⟩) (hro0:cx.ro=none) (hh:cx.h≤s.length):
  Pc Try.prog how cx [] 50 [6,7,12] (cr [.r, .l]) env σ (.normal) (AS.mk hp (s++ [.cells [.int .i64 0, .int .u64 0, .int .i64 0, .str ⟨#[]⟩]])) (fun env'=>Env.get env' 6= .ptr (.st s.length) 0∧Env.get env' 7= .bool false):=by
 refine pc_of fun res hr=>?_
 simp -implicitDefEqProofs [AS.get_push_at,AS.get_push_old,AS.push_len,AS.set_st_len,AS.next_st',AS.set_push_at,AS.get_set_self,AS.get_set_other,cr,Try.f31,hlen,hcx,hσ,hro0,hh,wok] at hr
 subst hr
 refine ⟨_,rfl,by simp[hlen],by simp[Env.get_set,hlen,hσ,hro0,hh,wok],fun i hi=>?_⟩
 simp only[List.mem_cons,List.not_mem_nil,or_false,not_or] at hi
 simp only[putE,get_set2,hi,false_and,if_false]
theorem rC (cx:Cx) (env:Env) (σ:AS) (a:Nat) (me n st br bn fr nx:Int) (X A O:AV) (n0:Nat) (hlen:env.length=50) (hcx:cx.esc= []) (f0:Env.get env 0= .ptr (.hp a) 0) (hX1:X.one=true) (hA:σ.get (.hp a)=some (.cells [.int .i64 me, .int .i64 n, .int .i64 st, .int .u64 br, .int .i64 bn, .int .i64 fr,X,A,O, .int .i64 nx])) (hl:lenA Try.prog σ 38 X=some n0):
  Pc Try.prog how cx [] 50 [13,14,15,16,17,18] (cr [.r, .r, .l, .l]) env σ (.normal) (σ) (fun env'=>Env.get env' 16=X∧Env.get env' 17= .int .i64 (n0:Int)∧Env.get env' 18= .int .i64 0):=by
 refine pc_of fun res hr=>?_
 simp -implicitDefEqProofs [-lenA,AS.get_push_at,AS.get_push_old,AS.push_len,AS.set_st_len,AS.next_st',AS.set_push_at,AS.get_set_self,AS.get_set_other,cr,Try.f31,hlen,hcx,f0,hX1,hA,hl] at hr
 subst hr
 refine ⟨_,rfl,by simp[hlen],by simp[Env.get_set,hlen,f0,hX1,hA,hl],fun i hi=>?_⟩
 simp only[List.mem_cons,List.not_mem_nil,or_false,not_or] at hi
 simp only[putE,get_set2,hi,false_and,if_false]
theorem rE (cx:Cx) (env:Env) (σ:AS) (k:Nat) (X pp W:AV) (nd:Int) (hlen:env.length=50) (hcx:cx.esc= []) (f16:Env.get env 16=X) (f18:Env.get env 18= .int .i64 (k:Int)) (hia:indexAddrA Try.prog σ 38 X (.int .i64 (k:Int))=some pp) (hpa:loadA Try.prog σ 91 pp=some (.agg [.int .i64 nd,W])) (hW:Plain W) (hw:wok cx.ro (.st σ.st.length)=true) (hh:cx.h≤σ.st.length):
  Pc Try.prog how cx [] 50 [9,20,21] (cr [.r, .r, .l, .r, .i, .i, .r, .r, .l, .i, .l]) env σ (.normal) (σ.push false (.cells [.int .i64 nd,W])) (fun env'=>Env.get env' 9= .ptr (.st σ.st.length) 0):=by
 refine pc_of fun res hr=>?_
 simp -implicitDefEqProofs [-indexAddrA,-loadA,AS.get_push_at,AS.get_push_old,AS.push_len,AS.set_st_len,AS.next_st',AS.set_push_at,AS.get_set_self,AS.get_set_other,cr,Try.f31,hlen,hcx,f16,f18,hia,hpa,hW.one,hW.inb,hW.row,hW.cells,hw,hh] at hr
 subst hr
 refine ⟨_,rfl,by simp[hlen],by simp[Env.get_set,hlen,f16,f18,hia,hpa,hW.one,hW.inb,hW.row,hW.cells,hw,hh],fun i hi=>?_⟩
 simp only[List.mem_cons,List.not_mem_nil,or_false,not_or] at hi
 simp only[putE,get_set2,hi,false_and,if_false]
theorem rF (cx:Cx) (env:Env) (σ:AS) (c m:Nat) (W:AV) (nd:Int) (hlen:env.length=50) (hcx:cx.esc= []) (f9:Env.get env 9= .ptr (.st c) 0) (gc:σ.get (.st c)=some (.cells [.int .i64 nd,W])) (hl:lenA Try.prog σ 22 W=some m):
  Pc Try.prog how cx [] 50 [22,23,24,25] (cr [.r, .r, .l, .r, .i, .i, .r, .r, .l, .i, .r, .l]) env σ (.normal) (σ) (fun env'=>Env.get env' 23=W∧Env.get env' 24= .int .i64 (m:Int)∧Env.get env' 25= .int .i64 0):=by
 refine pc_of fun res hr=>?_
 simp -implicitDefEqProofs [-lenA,AS.get_push_at,AS.get_push_old,AS.push_len,AS.set_st_len,AS.next_st',AS.set_push_at,AS.get_set_self,AS.get_set_other,cr,Try.f31,hlen,hcx,f9,gc,hl] at hr
 subst hr
 refine ⟨_,rfl,by simp[hlen],by simp[Env.get_set,hlen,f9,gc,hl],fun i hi=>?_⟩
 simp only[List.mem_cons,List.not_mem_nil,or_false,not_or] at hi
 simp only[putE,get_set2,hi,false_and,if_false]
theorem rG (cx:Cx) (env:Env) (σ:AS) (k:Nat) (W pp:AV) (v:Vt) (hlen:env.length=50) (hcx:cx.esc= []) (f23:Env.get env 23=W) (f25:Env.get env 25= .int .i64 (k:Int)) (hia:indexAddrA Try.prog σ 22 W (.int .i64 (k:Int))=some pp) (hpa:loadA Try.prog σ 84 pp=some (.agg [.int .i64 v.s, .int .u64 v.r, .int .i64 v.n, .str v.v])) (hw:wok cx.ro (.st σ.st.length)=true) (hh:cx.h≤σ.st.length):
  Pc Try.prog how cx [] 50 [11,27,28] (cr [.r, .r, .l, .r, .i, .i, .r, .r, .l, .i, .r, .r, .i, .i, .r, .r, .l, .i, .l]) env σ (.normal) (σ.push false (.cells [.int .i64 v.s, .int .u64 v.r, .int .i64 v.n, .str v.v])) (fun env'=>Env.get env' 11= .ptr (.st σ.st.length) 0):=by
 refine pc_of fun res hr=>?_
 simp -implicitDefEqProofs [-indexAddrA,-loadA,AS.get_push_at,AS.get_push_old,AS.push_len,AS.set_st_len,AS.next_st',AS.set_push_at,AS.get_set_self,AS.get_set_other,cr,Try.f31,hlen,hcx,f23,f25,hia,hpa,hw,hh] at hr
 subst hr
 refine ⟨_,rfl,by simp[hlen],by simp[Env.get_set,hlen,f23,f25,hia,hpa,hw,hh],fun i hi=>?_⟩
 simp only[List.mem_cons,List.not_mem_nil,or_false,not_or] at hi
 simp only[putE,get_set2,hi,false_and,if_false]
theorem rH (cx:Cx) (env:Env) (σ:AS) (slot:Int) (v w:Vt) (ok b3:Bool) (i j:Nat) (hlen:env.length=50) (hcx:cx.esc= []) (f1:Env.get env 1= .int .i64 slot) (f6:Env.get env 6= .ptr (.st i) 0) (f7:Env.get env 7= .bool ok) (f11:Env.get env 11= .ptr (.st j) 0) (gi:σ.get (.st i)=some (.cells [.int .i64 w.s, .int .u64 w.r, .int .i64 w.n, .str w.v])) (gj:σ.get (.st j)=some (.cells [.int .i64 v.s, .int .u64 v.r, .int .i64 v.n, .str v.v])) (k5:callW Try.prog how 47 [.agg [.int .u64 w.r, .int .i64 w.n], .agg [.int .u64 v.r, .int .i64 v.n]] σ cx.ro=some (.bool b3,σ)):
  Pc Try.prog how cx [] 50 [29,30,31,32,33,34,35,36,37,38,39,40,41,42,43] (cr [.r, .r, .l, .r, .i, .i, .r, .r, .l, .i, .r, .r, .i, .i, .r, .r, .l, .i, .r, .l]) env σ (.normal) (σ) (fun env'=>Env.get env' 43= .bool (decide (v.s=slot) && (!ok || b3))):=by
 by_cases q1:v.s=slot <;> cases ok <;> cases b3
 all_goals first | (fail; done) | (
   refine pc_of fun res hr=>?_
   simp -implicitDefEqProofs [AS.get_push_at,AS.get_push_old,AS.push_len,AS.set_st_len,AS.next_st',AS.set_push_at,AS.get_set_self,AS.get_set_other,cr,Try.f31,hlen,hcx,f1,f6,f7,f11,gi,gj,k5,q1] at hr
   subst hr
   refine ⟨_,rfl,by simp[hlen],by simp[Env.get_set,hlen,f1,f6,f7,f11,gi,gj,k5,q1],fun i hi=>?_⟩
   simp only[List.mem_cons,List.not_mem_nil,or_false,not_or] at hi
   simp only[putE,get_set2,hi,false_and,if_false]
  )
theorem rI (cx:Cx) (env:Env) (σ:AS) (v w:Vt) (i j:Nat) (hlen:env.length=50) (hcx:cx.esc= []) (f6:Env.get env 6= .ptr (.st i) 0) (f11:Env.get env 11= .ptr (.st j) 0) (gi:σ.get (.st i)=some (.cells [.int .i64 w.s, .int .u64 w.r, .int .i64 w.n, .str w.v])) (gj:σ.get (.st j)=some (.cells [.int .i64 v.s, .int .u64 v.r, .int .i64 v.n, .str v.v])) (hro0:cx.ro=none) (hi:cx.h≤i):
  Pc Try.prog how cx [] 50 [44] (cr [.r, .r, .l, .r, .i, .i, .r, .r, .l, .i, .r, .r, .i, .i, .r, .r, .l, .i, .r, .r, .l, .l]) env σ (.normal) (σ.set (.st i) (.cells [.int .i64 v.s, .int .u64 v.r, .int .i64 v.n, .str v.v])) (fun _=>True):=by
 refine pc_of fun res hr=>?_
 simp -implicitDefEqProofs [AS.get_push_at,AS.get_push_old,AS.push_len,AS.set_st_len,AS.next_st',AS.set_push_at,AS.get_set_self,AS.get_set_other,cr,Try.f31,hlen,hcx,f6,f11,gi,gj,hro0,hi,wok] at hr
 subst hr
 refine ⟨_,rfl,by simp[hlen],by simp[Env.get_set,hlen,f6,f11,gi,gj,hro0,hi,wok],fun i hi=>?_⟩
 simp only[List.mem_cons,List.not_mem_nil,or_false,not_or] at hi
 simp only[putE,get_set2,hi,false_and,if_false]
theorem rJ (cx:Cx) (env:Env) (σ:AS) (hlen:env.length=50) (hcx:cx.esc= []):
  Pc Try.prog how cx [] 50 [7] (cr [.r, .r, .l, .r, .i, .i, .r, .r, .l, .i, .r, .r, .i, .i, .r, .r, .l, .i, .r, .r, .l, .r]) env σ (.normal) (σ) (fun env'=>Env.get env' 7= .bool true):=by
 refine pc_of fun res hr=>?_
 simp -implicitDefEqProofs [AS.get_push_at,AS.get_push_old,AS.push_len,AS.set_st_len,AS.next_st',AS.set_push_at,AS.get_set_self,AS.get_set_other,cr,Try.f31,hlen,hcx] at hr
 subst hr
 refine ⟨_,rfl,by simp[hlen],by simp[Env.get_set,hlen],fun i hi=>?_⟩
 simp only[List.mem_cons,List.not_mem_nil,or_false,not_or] at hi
 simp only[putE,get_set2,hi,false_and,if_false]
theorem rZ (cx:Cx) (env:Env) (σ:AS) (w:Vt) (ok:Bool) (i:Nat) (hlen:env.length=50) (hcx:cx.esc= []) (f6:Env.get env 6= .ptr (.st i) 0) (f7:Env.get env 7= .bool ok) (gi:σ.get (.st i)=some (.cells [.int .i64 w.s, .int .u64 w.r, .int .i64 w.n, .str w.v])):
  Pc Try.prog how cx [] 50 [4,5,47,48,49] (cr [.r, .r, .r, .l]) env σ (.normal) (σ) (fun env'=>Env.get env' 4= .str w.v∧Env.get env' 5= .bool ok):=by
 refine pc_of fun res hr=>?_
 simp -implicitDefEqProofs [AS.get_push_at,AS.get_push_old,AS.push_len,AS.set_st_len,AS.next_st',AS.set_push_at,AS.get_set_self,AS.get_set_other,cr,Try.f31,hlen,hcx,f6,f7,gi] at hr
 subst hr
 refine ⟨_,rfl,by simp[hlen],by simp[Env.get_set,hlen,f6,f7,gi],fun i hi=>?_⟩
 simp only[List.mem_cons,List.not_mem_nil,or_false,not_or] at hi
 simp only[putE,get_set2,hi,false_and,if_false]
end
noncomputable def bodyC:Code:=(.seq (cr [.l]) (.seq (cr [.r, .l]) (.seq (.seq (cr [.r, .r, .l, .l]) (cr [.r, .r, .l, .r])) (.seq (cr [.r, .r, .r, .l]) .ret))))
theorem body:Try.f31.body=some bodyC:=by kernel_rfl
def Ji (h:Nat) (σ0:AS) (iB:Nat) (slot:Int) (X:AV) (N K:Nat) (vs:List Vt) (b0:Option Vt) (k:Nat) (env:Env) (σ:AS):Prop:=
 Env.get env 1= .int .i64 slot∧Env.get env 6= .ptr (.st iB) 0∧Env.get env 7= .bool (foldW slot (vs.take k) b0).isSome∧Env.get env 16=X∧Env.get env 17= .int .i64 ((N:Nat):Int)∧Env.get env 18= .int .i64 ((K:Nat):Int)∧Env.get env 23=slV 4 (vs.map encVt)∧(σ.get (.st iB)=some (.cells (vtC ((foldW slot (vs.take k) b0).getD zeroVt))))∧Outside h σ0 σ
def Exi (h:Nat) (σ0:AS) (iB:Nat) (slot:Int) (X:AV) (N K:Nat) (vs:List Vt) (b0:Option Vt) (e:AExit) (env:Env) (σ:AS):Prop:=False
theorem Ji_stable {h:Nat} {σ0:AS} {iB:Nat} {slot:Int} {X:AV} {N K:Nat} {vs:List Vt} {b0:Option Vt}: ∀k env env' σ,env.length=50→env'.length=50→(∀i,i≠26→i≠45→i≠25→Env.get env' i=Env.get env i)→Ji h σ0 iB slot X N K vs b0 k env σ→Ji h σ0 iB slot X N K vs b0 k env' σ:=by
 rintro k env env' σ _ _ hf ⟨j1,j6,j7,j16,j17,j18,j23,q0,ho⟩
 exact ⟨(hf 1 (by decide) (by decide) (by decide)).trans j1,(hf 6 (by decide) (by decide) (by decide)).trans j6,(hf 7 (by decide) (by decide) (by decide)).trans j7,(hf 16 (by decide) (by decide) (by decide)).trans j16,(hf 17 (by decide) (by decide) (by decide)).trans j17,(hf 18 (by decide) (by decide) (by decide)).trans j18,(hf 23 (by decide) (by decide) (by decide)).trans j23,q0,ho⟩
noncomputable def oTi:Oper:=(opsOf (cr [.r, .r, .l, .r, .i, .i, .r, .r, .l, .i, .r, .r, .i, .i, .l])).headD default
noncomputable def oIi:List Oper:=opsOf (cr [.r, .r, .l, .r, .i, .i, .r, .r, .l, .i, .r, .r, .i, .i, .r, .r, .r])
theorem loop_eqi:(cr [.r, .r, .l, .r, .i, .i, .r, .r, .l, .i, .r, .r])= .block 2 (.loop (.seq (.region 6 #[oTi] false) (.seq (.cond (.tmp 26) .skip (.exit 2)) (.seq (.block 3 (.seq (cr [.r, .r, .l, .r, .i, .i, .r, .r, .l, .i, .r, .r, .i, .i, .r, .r, .l, .i, .l]) (.seq (cr [.r, .r, .l, .r, .i, .i, .r, .r, .l, .i, .r, .r, .i, .i, .r, .r, .l, .i, .r, .l]) (.cond (.tmp 43) (.seq (cr [.r, .r, .l, .r, .i, .i, .r, .r, .l, .i, .r, .r, .i, .i, .r, .r, .l, .i, .r, .r, .l, .l]) (cr [.r, .r, .l, .r, .i, .i, .r, .r, .l, .i, .r, .r, .i, .i, .r, .r, .l, .i, .r, .r, .l, .r])) .skip)))) (.region 11 #[oIi.headD default,(oIi.drop 1).headD default] false))))):=by kernel_rfl
theorem stepi (cx:Cx) (hcx:cx.esc= []) (hro: ∀k,cx.ro=some k→k≤cx.h) (σ0:AS) (iB:Nat) (slot:Int) (X:AV) (N K:Nat) (vs:List Vt) (b0:Option Vt) (hro2:cx.ro=none) (hiB:cx.h≤iB):
  ∀k env σ,k<vs.length→env.length=50→Env.get env 25= .int .i64 (k:Int)→Env.get env 24= .int .i64 ((vs.length:Nat):Int)→Ji cx.h σ0 iB slot X N K vs b0 k env σ→ ∃e env' σ',execW Try.prog cx [] (callW Try.prog how) (.block 3 (.seq (cr [.r, .r, .l, .r, .i, .i, .r, .r, .l, .i, .r, .r, .i, .i, .r, .r, .l, .i, .l]) (.seq (cr [.r, .r, .l, .r, .i, .i, .r, .r, .l, .i, .r, .r, .i, .i, .r, .r, .l, .i, .r, .l]) (.cond (.tmp 43) (.seq (cr [.r, .r, .l, .r, .i, .i, .r, .r, .l, .i, .r, .r, .i, .i, .r, .r, .l, .i, .r, .r, .l, .l]) (cr [.r, .r, .l, .r, .i, .i, .r, .r, .l, .i, .r, .r, .i, .i, .r, .r, .l, .i, .r, .r, .l, .r])) .skip)))) (env,σ)=some (e,(env',σ'))∧
   ((e= .normal∧env'.length=50∧Env.get env' 25= .int .i64 (k:Int)∧Env.get env' 24= .int .i64 ((vs.length:Nat):Int)∧Ji cx.h σ0 iB slot X N K vs b0 (k+1) env' σ')∨(e≠ .normal∧Exi cx.h σ0 iB slot X N K vs b0 e env' σ')):=by
 rintro k env σ hk hlen f25 f24 ⟨f1,f6,f7,f16,f17,f18,f23,q0,ho⟩
 obtain ⟨pp,hia,hpa⟩:=(rdV2 σ vs).2 k (encVt vs[k]) (get_el hk)
 obtain ⟨env1,x1a,x1b,x1c,x1d⟩:=rG cx env σ k _ pp (vs[k]) hlen hcx f23 f25 hia hpa (wokst hro ho.2.2) ho.2.2
 have f1:=(x1d 1 (by decide)).trans f1
 have f6:=(x1d 6 (by decide)).trans f6
 have f7:=(x1d 7 (by decide)).trans f7
 have f16:=(x1d 16 (by decide)).trans f16
 have f17:=(x1d 17 (by decide)).trans f17
 have f18:=(x1d 18 (by decide)).trans f18
 have f23:=(x1d 23 (by decide)).trans f23
 have f24:=(x1d 24 (by decide)).trans f24
 have f25:=(x1d 25 (by decide)).trans f25
 have f11:=x1c
 have g1:((σ:AS).push false (.cells [.int .i64 vs[k].s, .int .u64 vs[k].r, .int .i64 vs[k].n, .str vs[k].v])).get (.st (σ:AS).st.length)=some (.cells [.int .i64 vs[k].s, .int .u64 vs[k].r, .int .i64 vs[k].n, .str vs[k].v]):=AS.get_push_at rfl
 have q0:=get_push' (ob':= .cells [.int .i64 vs[k].s, .int .u64 vs[k].r, .int .i64 vs[k].n, .str vs[k].v]) q0
 have ho:=ho.push (ob:= .cells [.int .i64 vs[k].s, .int .u64 vs[k].r, .int .i64 vs[k].n, .str vs[k].v])
 generalize hib1:(σ:AS).st.length=ib1 at g1 f11
 generalize (σ:AS).push false (.cells [.int .i64 vs[k].s, .int .u64 vs[k].r, .int .i64 vs[k].n, .str vs[k].v])=σ1 at x1a g1 q0 ho
 have k5:=rless_c σ1.hp σ1.st cx.ro ((foldW slot (vs.take k) b0).getD zeroVt).r ((foldW slot (vs.take k) b0).getD zeroVt).n vs[k].r vs[k].n (fun j hj=>by rw[hro2] at hj; cases hj)
 obtain ⟨env2,x2a,x2b,x2c,x2d⟩:=rH cx env1 σ1 slot (vs[k]) (((foldW slot (vs.take k) b0).getD zeroVt)) _ _ _ _ x1b hcx f1 f6 f7 f11 q0 g1 k5
 have f1:=(x2d 1 (by decide)).trans f1
 have f6:=(x2d 6 (by decide)).trans f6
 have f7:=(x2d 7 (by decide)).trans f7
 have f11:=(x2d 11 (by decide)).trans f11
 have f16:=(x2d 16 (by decide)).trans f16
 have f17:=(x2d 17 (by decide)).trans f17
 have f18:=(x2d 18 (by decide)).trans f18
 have f23:=(x2d 23 (by decide)).trans f23
 have f24:=(x2d 24 (by decide)).trans f24
 have f25:=(x2d 25 (by decide)).trans f25
 have f43:=x2c
 have ev1:=ev_tmp f43
 have hs:=foldW_succ (slot:=slot) (b:=b0) hk
 cases qc:(decide (vs[k].s=slot) && (!(foldW slot (vs.take k) b0).isSome || lessB ((foldW slot (vs.take k) b0).getD zeroVt).r ((foldW slot (vs.take k) b0).getD zeroVt).n vs[k].r vs[k].n)) with
 | true=>
  have ev1:=ev1.trans (congrArg (fun b=>some (AV.bool b)) qc)
  have hs2:foldW slot (vs.take (k+1)) b0=some vs[k]:=by rw[hs]; unfold stepW; rw[if_pos qc]
  obtain ⟨env3,x3a,x3b,x3c,x3d⟩:=rI cx env2 σ1 (vs[k]) (((foldW slot (vs.take k) b0).getD zeroVt)) iB _ x2b hcx f6 f11 q0 g1 hro2 hiB
  have f1:=(x3d 1 (by decide)).trans f1
  have f6:=(x3d 6 (by decide)).trans f6
  have f7:=(x3d 7 (by decide)).trans f7
  have f11:=(x3d 11 (by decide)).trans f11
  have f16:=(x3d 16 (by decide)).trans f16
  have f17:=(x3d 17 (by decide)).trans f17
  have f18:=(x3d 18 (by decide)).trans f18
  have f23:=(x3d 23 (by decide)).trans f23
  have f24:=(x3d 24 (by decide)).trans f24
  have f25:=(x3d 25 (by decide)).trans f25
  have f43:=(x3d 43 (by decide)).trans f43
  obtain ⟨env4,x4a,x4b,x4c,x4d⟩:=rJ cx env3 ((σ1.set (.st iB) (.cells (vtC vs[k])))) x3b hcx
  have f1:=(x4d 1 (by decide)).trans f1
  have f6:=(x4d 6 (by decide)).trans f6
  have f11:=(x4d 11 (by decide)).trans f11
  have f16:=(x4d 16 (by decide)).trans f16
  have f17:=(x4d 17 (by decide)).trans f17
  have f18:=(x4d 18 (by decide)).trans f18
  have f23:=(x4d 23 (by decide)).trans f23
  have f24:=(x4d 24 (by decide)).trans f24
  have f25:=(x4d 25 (by decide)).trans f25
  have f43:=(x4d 43 (by decide)).trans f43
  have f7:=x4c
  exact ⟨.normal,env4,_,(execW_block_of (execW_seq_of x1a (execW_seq_of x2a (execW_cond_t ev1 (execW_seq_of x3a x4a))))), .inl ⟨rfl,x4b,f25,f24,f1,f6,(by rw[hs2]; exact f7),f16,f17,f18,f23,(by rw[hs2,AS.get_set,if_pos rfl,q0]; rfl),(ho.set ⟨iB,rfl,hiB⟩)⟩⟩
 | false=>
  have ev1:=ev1.trans (congrArg (fun b=>some (AV.bool b)) qc)
  have hs2:foldW slot (vs.take (k+1)) b0=(foldW slot (vs.take k) b0):=by rw[hs]; unfold stepW; rw[if_neg (by rw[qc]; simp)]
  exact ⟨.normal,env2,_,(execW_block_of (execW_seq_of x1a (execW_seq_of x2a (execW_cond_f ev1 (by rfl))))), .inl ⟨rfl,x2b,f25,f24,f1,f6,(by rw[hs2]; exact f7),f16,f17,f18,f23,(by rw[hs2]; exact q0),ho⟩⟩
theorem loopi (cx:Cx) (hcx:cx.esc= []) (hro: ∀k,cx.ro=some k→k≤cx.h) (σ0:AS) (iB:Nat) (slot:Int) (X:AV) (N K:Nat) (vs:List Vt) (b0:Option Vt) (hro2:cx.ro=none) (hiB:cx.h≤iB) (hnn:vs.length≤9223372036854775807) {env:Env} {σ:AS} (hl:env.length=50) (h1:Env.get env 25= .int .i64 0) (h2:Env.get env 24= .int .i64 ((vs.length:Nat):Int)) (h0:Ji cx.h σ0 iB slot X N K vs b0 0 env σ):
  ∃e env' σ',execW Try.prog cx [] (callW Try.prog how) (cr [.r, .r, .l, .r, .i, .i, .r, .r, .l, .i, .r, .r]) (env,σ)=some (e,(env',σ'))∧((e= .normal∧((env'.length=50∧Ji cx.h σ0 iB slot X N K vs b0 (vs.length) env' σ')∨Exi cx.h σ0 iB slot X N K vs b0 (.exit 2) env' σ'))∨(e≠ .normal∧e≠ .exit 2∧Exi cx.h σ0 iB slot X N K vs b0 e env' σ')):=by
 rw[loop_eqi]
 exact range_std (Ex:=Exi cx.h σ0 iB slot X N K vs b0) (N:=50) (tc:=26) (ti:=25) (tl:=24) (tx:=45) (ty1:=3) (ty2:=3) (ty3:=3) (ty4:=3) ⟨by kernel_rfl,by kernel_rfl,by kernel_rfl⟩ ⟨by kernel_rfl,by kernel_rfl,by kernel_rfl⟩ ⟨by kernel_rfl,by kernel_rfl,by kernel_rfl⟩ (by decide) hnn Ji_stable (stepi cx hcx hro σ0 iB slot X N K vs b0 hro2 hiB) hl h1 h2 h0
def Jo (h:Nat) (σ0:AS) (iB:Nat) (slot:Int) (X:AV) (P:List (Int×List Vt)) (k:Nat) (env:Env) (σ:AS):Prop:=
 Env.get env 1= .int .i64 slot∧Env.get env 6= .ptr (.st iB) 0∧Env.get env 7= .bool (valueF (P.take k) slot).isSome∧Env.get env 16=X∧(σ.get (.st iB)=some (.cells (vtC ((valueF (P.take k) slot).getD zeroVt))))∧Outside h σ0 σ
def Exo (h:Nat) (σ0:AS) (iB:Nat) (slot:Int) (X:AV) (P:List (Int×List Vt)) (e:AExit) (env:Env) (σ:AS):Prop:=False
theorem Jo_stable {h:Nat} {σ0:AS} {iB:Nat} {slot:Int} {X:AV} {P:List (Int×List Vt)}: ∀k env env' σ,env.length=50→env'.length=50→(∀i,i≠19→i≠46→i≠18→Env.get env' i=Env.get env i)→Jo h σ0 iB slot X P k env σ→Jo h σ0 iB slot X P k env' σ:=by
 rintro k env env' σ _ _ hf ⟨j1,j6,j7,j16,q0,ho⟩
 exact ⟨(hf 1 (by decide) (by decide) (by decide)).trans j1,(hf 6 (by decide) (by decide) (by decide)).trans j6,(hf 7 (by decide) (by decide) (by decide)).trans j7,(hf 16 (by decide) (by decide) (by decide)).trans j16,q0,ho⟩
noncomputable def oTo:Oper:=(opsOf (cr [.r, .r, .l, .r, .i, .i, .l])).headD default
noncomputable def oIo:List Oper:=opsOf (cr [.r, .r, .l, .r, .i, .i, .r, .r, .r])
theorem loop_eqo:(cr [.r, .r, .l, .r])= .block 0 (.loop (.seq (.region 3 #[oTo] false) (.seq (.cond (.tmp 19) .skip (.exit 0)) (.seq (.block 1 (.seq (cr [.r, .r, .l, .r, .i, .i, .r, .r, .l, .i, .l]) (.seq (cr [.r, .r, .l, .r, .i, .i, .r, .r, .l, .i, .r, .l]) (cr [.r, .r, .l, .r, .i, .i, .r, .r, .l, .i, .r, .r])))) (.region 12 #[oIo.headD default,(oIo.drop 1).headD default] false))))):=by kernel_rfl
theorem stepo (cx:Cx) (hcx:cx.esc= []) (hro: ∀k,cx.ro=some k→k≤cx.h) (σ0:AS) (iB:Nat) (slot:Int) (X:AV) (P:List (Int×List Vt)) (hro2:cx.ro=none) (hiB:cx.h≤iB) (hX: ∀st,Rd Try.prog ⟨σ0.hp,st⟩ 38 91 X (P.map encPm)) (hvl: ∀p∈P,p.2.length≤1000):
  ∀k env σ,k<P.length→env.length=50→Env.get env 18= .int .i64 (k:Int)→Env.get env 17= .int .i64 ((P.length:Nat):Int)→Jo cx.h σ0 iB slot X P k env σ→ ∃e env' σ',execW Try.prog cx [] (callW Try.prog how) (.block 1 (.seq (cr [.r, .r, .l, .r, .i, .i, .r, .r, .l, .i, .l]) (.seq (cr [.r, .r, .l, .r, .i, .i, .r, .r, .l, .i, .r, .l]) (cr [.r, .r, .l, .r, .i, .i, .r, .r, .l, .i, .r, .r])))) (env,σ)=some (e,(env',σ'))∧
   ((e= .normal∧env'.length=50∧Env.get env' 18= .int .i64 (k:Int)∧Env.get env' 17= .int .i64 ((P.length:Nat):Int)∧Jo cx.h σ0 iB slot X P (k+1) env' σ')∨(e≠ .normal∧Exo cx.h σ0 iB slot X P e env' σ')):=by
 rintro k env σ hk hlen f18 f17 ⟨f1,f6,f7,f16,q0,ho⟩
 have hXσ:Rd Try.prog σ 38 91 X (P.map encPm):=by have:=hX σ.st; rw[←ho.1] at this; exact this
 obtain ⟨pp,hia,hpa⟩:=hXσ.2 k (encPm P[k]) (get_el hk)
 obtain ⟨env1,x1a,x1b,x1c,x1d⟩:=rE cx env σ k _ pp ((slV 4 (P[k].2.map encVt))) (P[k].1) hlen hcx f16 f18 hia hpa slV_plain (wokst hro ho.2.2) ho.2.2
 have f1:=(x1d 1 (by decide)).trans f1
 have f6:=(x1d 6 (by decide)).trans f6
 have f7:=(x1d 7 (by decide)).trans f7
 have f16:=(x1d 16 (by decide)).trans f16
 have f17:=(x1d 17 (by decide)).trans f17
 have f18:=(x1d 18 (by decide)).trans f18
 have f9:=x1c
 have g1:((σ:AS).push false (.cells [.int .i64 P[k].1,(slV 4 (P[k].2.map encVt))])).get (.st (σ:AS).st.length)=some (.cells [.int .i64 P[k].1,(slV 4 (P[k].2.map encVt))]):=AS.get_push_at rfl
 have q0:=get_push' (ob':= .cells [.int .i64 P[k].1,(slV 4 (P[k].2.map encVt))]) q0
 have ho:=ho.push (ob:= .cells [.int .i64 P[k].1,(slV 4 (P[k].2.map encVt))])
 generalize hib1:(σ:AS).st.length=ib1 at g1 f9
 generalize (σ:AS).push false (.cells [.int .i64 P[k].1,(slV 4 (P[k].2.map encVt))])=σ1 at x1a g1 q0 ho
 have hl2:=(rdV2 σ1 P[k].2).1
 rw[List.length_map] at hl2
 obtain ⟨env2,x2a,x2b,x2c,x2d⟩:=rF cx env1 σ1 _ (P[k].2.length) _ _ x1b hcx f9 g1 hl2
 have f1:=(x2d 1 (by decide)).trans f1
 have f6:=(x2d 6 (by decide)).trans f6
 have f7:=(x2d 7 (by decide)).trans f7
 have f9:=(x2d 9 (by decide)).trans f9
 have f16:=(x2d 16 (by decide)).trans f16
 have f17:=(x2d 17 (by decide)).trans f17
 have f18:=(x2d 18 (by decide)).trans f18
 have f23:=x2c.1
 have f24:=x2c.2.1
 have f25:=x2c.2.2
 obtain ⟨e3,env3,σ3,x3a,x3p⟩:=loopi cx hcx hro σ0 iB slot X P.length k P[k].2 (valueF (P.take k) slot) hro2 hiB (by have:=hvl _ (List.getElem_mem hk); omega) (σ:=σ1) x2b f25 f24 (⟨f1,f6,f7,f16,f17,f18,f23,q0,ho⟩)
 rcases x3p with ⟨rfl,⟨x3b,f1,f6,f7,f16,f17,f18,f23,q0,ho⟩ | x3p⟩ | ⟨x3q,x3r,x3p⟩
 ·skip
  rw[List.take_length] at q0 f7
  have hs:=valueF_succ (slot:=slot) hk
  exact ⟨.normal,env3,_,(execW_block_of (execW_seq_of x1a (execW_seq_of x2a x3a))), .inl ⟨rfl,x3b,f18,f17,f1,f6,(by rw[hs]; exact f7),f16,(by rw[hs]; exact q0),ho⟩⟩
 ·cases x3p
 ·cases x3p
theorem loopo (cx:Cx) (hcx:cx.esc= []) (hro: ∀k,cx.ro=some k→k≤cx.h) (σ0:AS) (iB:Nat) (slot:Int) (X:AV) (P:List (Int×List Vt)) (hro2:cx.ro=none) (hiB:cx.h≤iB) (hX: ∀st,Rd Try.prog ⟨σ0.hp,st⟩ 38 91 X (P.map encPm)) (hvl: ∀p∈P,p.2.length≤1000) (hnn:P.length≤9223372036854775807) {env:Env} {σ:AS} (hl:env.length=50) (h1:Env.get env 18= .int .i64 0) (h2:Env.get env 17= .int .i64 ((P.length:Nat):Int)) (h0:Jo cx.h σ0 iB slot X P 0 env σ):
  ∃e env' σ',execW Try.prog cx [] (callW Try.prog how) (cr [.r, .r, .l, .r]) (env,σ)=some (e,(env',σ'))∧((e= .normal∧((env'.length=50∧Jo cx.h σ0 iB slot X P (P.length) env' σ')∨Exo cx.h σ0 iB slot X P (.exit 0) env' σ'))∨(e≠ .normal∧e≠ .exit 0∧Exo cx.h σ0 iB slot X P e env' σ')):=by
 rw[loop_eqo]
 exact range_std (Ex:=Exo cx.h σ0 iB slot X P) (N:=50) (tc:=19) (ti:=18) (tl:=17) (tx:=46) (ty1:=3) (ty2:=3) (ty3:=3) (ty4:=3) ⟨by kernel_rfl,by kernel_rfl,by kernel_rfl⟩ ⟨by kernel_rfl,by kernel_rfl,by kernel_rfl⟩ ⟨by kernel_rfl,by kernel_rfl,by kernel_rfl⟩ (by decide) hnn Jo_stable (stepo cx hcx hro σ0 iB slot X P hro2 hiB hX hvl) hl h1 h2 h0
theorem ok (hp s:List AObj) (a:Nat) (me n slot:Int) (r:Rv) (X A O:AV) (hA:hp[a]?=some (.cells (cellsR me n r X A O))) (hX1:X.one=true) (hX: ∀st,Rd Try.prog ⟨hp,st⟩ 38 91 X (r.P.map encPm)) (hvl: ∀p∈r.P,p.2.length≤1000) (hPl:r.P.length≤1000):
  callW Try.prog how 31 [.ptr (.hp a) 0, .int .i64 slot] ⟨hp,s⟩ none=some (.tup [.str ((valueF r.P slot).getD zeroVt).v, .bool (valueF r.P slot).isSome],⟨hp,s⟩):=by
 let cx:Cx:={h:=s.length,ro:=none,esc:= []}
 have hcx:cx.esc= []:=rfl
 have hro: ∀k,cx.ro=some k→k≤cx.h:=fun k hk=>by cases hk
 obtain ⟨env,henv⟩: ∃e,e=frameA Try.f31 [.ptr (.hp a) 0, .int .i64 slot]:=⟨_,rfl⟩
 have hlen:env.length=50:=by rw[henv]; rfl
 have f0:Env.get env 0= .ptr (.hp a) 0:=by rw[henv]; rfl
 have f1:Env.get env 1= .int .i64 slot:=by rw[henv]; rfl
 have ho:Outside s.length (AS.mk hp s) (AS.mk hp s):=Outside.refl (Nat.le_refl _)
 obtain ⟨env1,x1a,x1b,x1c,x1d⟩:=rA cx env (AS.mk hp s) hlen hcx
 have f0:=(x1d 0 (by decide)).trans f0
 have f1:=(x1d 1 (by decide)).trans f1
 have f4:=x1c.1
 have f5:=x1c.2
 obtain ⟨env2,x2a,x2b,x2c,x2d⟩:=rB cx env1 (AS.mk hp s) hp s x1b hcx rfl rfl (Nat.le_refl _)
 have f0:=(x2d 0 (by decide)).trans f0
 have f1:=(x2d 1 (by decide)).trans f1
 have f4:=(x2d 4 (by decide)).trans f4
 have f5:=(x2d 5 (by decide)).trans f5
 have f6:=x2c.1
 have f7:=x2c.2
 have hl:=(hX (s++ [AObj.cells [.int .i64 0, .int .u64 0, .int .i64 0, .str ⟨#[]⟩]])).1
 rw[List.length_map] at hl
 obtain ⟨env3,x3a,x3b,x3c,x3d⟩:=rC cx env2 (AS.mk hp (s++ [AObj.cells [.int .i64 0, .int .u64 0, .int .i64 0, .str ⟨#[]⟩]])) a me n r.st r.br r.bn r.fr r.nx X A O r.P.length x2b hcx f0 hX1 hA hl
 have f0:=(x3d 0 (by decide)).trans f0
 have f1:=(x3d 1 (by decide)).trans f1
 have f4:=(x3d 4 (by decide)).trans f4
 have f5:=(x3d 5 (by decide)).trans f5
 have f6:=(x3d 6 (by decide)).trans f6
 have f7:=(x3d 7 (by decide)).trans f7
 have f16:=x3c.1
 have f17:=x3c.2.1
 have f18:=x3c.2.2
 have ho:Outside s.length (AS.mk hp s) (AS.mk hp (s++ [AObj.cells [.int .i64 0, .int .u64 0, .int .i64 0, .str ⟨#[]⟩]])):=⟨rfl,by simp,by simp⟩
 obtain ⟨e4,env4,σ4,x4a,x4p⟩:=loopo cx hcx hro ⟨hp,s⟩ s.length slot X r.P rfl (Nat.le_refl _) hX hvl (by omega) (σ:=AS.mk hp (s++ [AObj.cells [.int .i64 0, .int .u64 0, .int .i64 0, .str ⟨#[]⟩]])) x3b f18 f17 (⟨f1,f6,f7,f16,(by simp[AS.get,vtC,valueF,zeroVt]),ho⟩)
 rcases x4p with ⟨rfl,⟨x4b,f1,f6,f7,f16,q0,ho⟩ | x4p⟩ | ⟨x4q,x4r,x4p⟩
 ·skip
  rw[List.take_length] at q0 f7
  obtain ⟨env5,x5a,x5b,x5c,x5d⟩:=rZ cx env4 σ4 (((valueF r.P slot).getD zeroVt)) _ _ x4b hcx f6 f7 q0
  have f1:=(x5d 1 (by decide)).trans f1
  have f6:=(x5d 6 (by decide)).trans f6
  have f7:=(x5d 7 (by decide)).trans f7
  have f16:=(x5d 16 (by decide)).trans f16
  have f4:=x5c.1
  have f5:=x5c.2
  exact call_of (fl:={}) (fn:=Try.f31) (c:=bodyC) (env:=env) (e:=(.ret,(env5,σ4))) rfl Try.func31 body henv (by unfold bodyC; exact (execW_seq_of x1a (execW_seq_of x2a (execW_seq_of (execW_seq_of x3a x4a) (execW_seq_of x5a (by rfl)))))) ((fin_two (w:= .tup [.str ((valueF r.P slot).getD zeroVt).v, .bool (valueF r.P slot).isSome]) (.inl rfl) rfl (v:= .str ((valueF r.P slot).getD zeroVt).v) (v':= .bool (valueF r.P slot).isSome) (by simp[Try.f31,resA,f4,f5]) (by simp[AV.back,AVs.back]) (by simp[AV.inb,AVs.inb])).trans (congrArg (fun x=>some (_,x)) (outside_st ho)))
 ·cases x4p
 ·cases x4p
end RVal
