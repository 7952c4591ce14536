/- Walk 14. -/

import Derived.Test.YtidfkjpcpgeilaaF13
open Go Go.Abs Go.Proofs
set_option maxRecDepth 100000
set_option maxHeartbeats 4000000
set_option linter.unusedSimpArgs false
set_option linter.unusedVariables false
open Ldr
section
attribute [local simp] ofV ofCell ofCells seqA_nil seqA_cons seqVK_eq seqEK_eq wantedA yieldedA isVal effA ev evs evps putE optsA optsOk valA fieldAddrA fieldA loadA partA aggA isAggD buildA placesA fillA lay storeA AV.withCells buildSliceA elemsA rowParts fzL promL okE isSrc bytesOk pushA cxOf lenA binA intBinA strBinA unA indexAddrA eqA AVs.inb AV.inb Loc.inb calleeA opsOf sub bodyOf Env.get_set quietA_nil quietA_cons quietK_none quietK_some qstep newA isNew escNew boxOk newLoc flat rowPartsQ quietN quietOp isBS List.takeWhile finishA_eq finK_ret finK_normal retK backK resA oneA AV.back AVs.back execW_seq_eq seqK_normal seqK_ret seqK_exit execW_cond_eq condK_true condK_false execW_block_eq blockK_exit blockK_normal blockK_ret execW_region_eq regK_eq execW_skip execW_exit execW_ret regionA_plain regionA_quiet0 tailK_eq nilCheckA guardOk isConst lookupA keyFits mapUpdateA beqI bneI
theorem plain_c (hp s:List AObj) (ro:Option Nat) (r b:Int) (hro: ∀k,ro=some k→k≤s.length):
  callW Try.prog how 17 [.agg [.int .u64 r, .int .i64 b]] ⟨hp,s⟩ ro=some (.agg [.int .u64 r, .int .i64 b],⟨hp,s⟩):=by
 refine callW_body (fl:={}) (fn:=Try.f17) (c:=bodyOf Try.f17) rfl Try.func17 rfl ?_
 have henv: ∃e,e=frameA Try.f17 [.agg [.int .u64 r, .int .i64 b]]:=⟨_,rfl⟩
 obtain ⟨env,henv⟩:=henv
 have hl:env.length=8:=by rw[henv]; rfl
 have h0:Env.get env 0= .agg [.int .u64 r, .int .i64 b]:=by rw[henv]; rfl
 rw[←henv]
 clear henv
 simp -implicitDefEqProofs [Try.f17,hl,h0,wok_le hro,wok_le' hro,List.append_assoc]
theorem ours_c (hp s:List AObj) (ro:Option Nat) (r b:Int) (hro: ∀k,ro=some k→k≤s.length):
  callW Try.prog how 34 [.agg [.int .u64 r, .int .i64 b]] ⟨hp,s⟩ ro=some (.agg [.int .u64 r, .int .i64 b],⟨hp,s⟩):=by
 refine callW_body (fl:={}) (fn:=Try.f34) (c:=bodyOf Try.f34) rfl Try.func34 rfl ?_
 have henv: ∃e,e=frameA Try.f34 [.agg [.int .u64 r, .int .i64 b]]:=⟨_,rfl⟩
 obtain ⟨env,henv⟩:=henv
 have hl:env.length=8:=by rw[henv]; rfl
 have h0:Env.get env 0= .agg [.int .u64 r, .int .i64 b]:=by rw[henv]; rfl
 rw[←henv]
 clear henv
 simp -implicitDefEqProofs [Try.f34,hl,h0,wok_le hro,wok_le' hro,List.append_assoc]
theorem vote_raw (hp s:List AObj) (ro:Option Nat) (v:Vt) (hro: ∀k,ro=some k→k≤s.length) (k1: ∀s ro,(∀k,ro=some k→k≤s.length)→callW Try.prog how 34 [.agg [.int .u64 v.r, .int .i64 v.n]] ⟨hp,s⟩ ro=some (.agg [.int .u64 v.r, .int .i64 v.n],⟨hp,s⟩)):
  callW Try.prog how 24 [.agg [.int .i64 v.s, .int .u64 v.r, .int .i64 v.n, .str v.v]] ⟨hp,s⟩ ro=some (.agg [.int .i64 v.s, .int .u64 v.r, .int .i64 v.n, .str v.v],⟨hp,s⟩):=by
 refine callW_body (fl:={}) (fn:=Try.f24) (c:=bodyOf Try.f24) rfl Try.func24 rfl ?_
 have henv: ∃e,e=frameA Try.f24 [.agg [.int .i64 v.s, .int .u64 v.r, .int .i64 v.n, .str v.v]]:=⟨_,rfl⟩
 obtain ⟨env,henv⟩:=henv
 have hl:env.length=11:=by rw[henv]; rfl
 have h0:Env.get env 0= .agg [.int .i64 v.s, .int .u64 v.r, .int .i64 v.n, .str v.v]:=by rw[henv]; rfl
 rw[←henv]
 clear henv
 simp -implicitDefEqProofs [Try.f24,hl,h0,wok_le hro,wok_le' hro,k1,List.append_assoc]
end
theorem vote_c (hp s:List AObj) (ro:Option Nat) (v:Vt) (hro: ∀k,ro=some k→k≤s.length):callW Try.prog how 24 [encVt v] ⟨hp,s⟩ ro=some (encVt v,⟨hp,s⟩):=
 vote_raw hp s ro v hro fun s ro h=>ours_c hp s ro v.r v.n h
theorem appW:AppOk Try.prog 22 4 40:=⟨84, .slice 84,by simp[elemA],by simp,by simp,by kernel_rfl,rfl,by decide,by simp[AV.cells]⟩
theorem Rows2 {h:Nat} {σ:AS} {sz:Nat}:Rows h σ [(sz, .nils,[]),(sz, .nils,[])]:=⟨fun e he=>by
  simp only[List.mem_cons,List.not_mem_nil,or_false,or_self] at he
  subst he; exact .inl ⟨rfl,rfl⟩,List.pairwise_cons.2 ⟨fun b hb=>Sep2.nil,List.pairwise_singleton _ _⟩⟩
theorem take_lt {α:Type} {l:List α} {k m:Nat} (hk:k<l.length) (h:k<m):l.take (min (k+1) m)=l.take (min k m)++ [l[k]]:=by
 rw[Nat.min_eq_left h,Nat.min_eq_left (by omega),List.take_succ_eq_append_getElem hk]
theorem take_ge {α:Type} {l:List α} {k m:Nat} (h: ¬k<m):l.take (min (k+1) m)=l.take (min k m):=by
 rw[Nat.min_eq_right (by omega),Nat.min_eq_right (by omega)]
namespace LVotes
noncomputable def cr (p:List Dir):Code:=sub p (bodyOf Try.f9)
section
attribute [local simp] ofV ofCell ofCells seqA_nil seqA_cons seqVK_eq seqEK_eq wantedA yieldedA isVal effA ev evs evps putE optsA optsOk valA fieldAddrA fieldA loadA partA aggA isAggD buildA placesA fillA lay storeA AV.withCells buildSliceA elemsA rowParts fzL promL okE isSrc bytesOk pushA cxOf lenA binA intBinA strBinA unA indexAddrA eqA AVs.inb AV.inb Loc.inb calleeA opsOf sub bodyOf Env.get_set quietA_nil quietA_cons quietK_none quietK_some qstep newA isNew escNew boxOk newLoc flat rowPartsQ quietN quietOp isBS List.takeWhile finishA_eq finK_ret finK_normal retK backK resA oneA AV.back AVs.back execW_seq_eq seqK_normal seqK_ret seqK_exit execW_cond_eq condK_true condK_false execW_block_eq blockK_exit blockK_normal blockK_ret execW_region_eq regK_eq execW_skip execW_exit execW_ret regionA_plain regionA_quiet0 tailK_eq nilCheckA guardOk isConst lookupA keyFits mapUpdateA beqI bneI
theorem rA (cx:Cx) (env:Env) (σ:AS) (hlen:env.length=29) (hcx:cx.esc= []):
  Pc Try.prog how cx [] 29 [2,3] (cr [.l]) env σ (.normal) (σ) (fun env'=>Env.get env' 2= .nils∧Env.get env' 3= .nils):=by
 refine pc_of fun res hr=>?_
 simp -implicitDefEqProofs [AS.get_push_at,AS.get_push_old,AS.push_len,AS.set_st_len,AS.next_st',AS.set_push_at,AS.get_set_self,AS.get_set_other,cr,Try.f9,hlen,hcx] at hr
 subst hr
 refine ⟨_,rfl,by simp[hlen],by simp[Env.get_set,hlen],fun i hi=>?_⟩
 simp only[List.mem_cons,List.not_mem_nil,or_false,not_or] at hi
 simp only[putE,get_set2,hi,false_and,if_false]
theorem rB (cx:Cx) (env:Env) (σ:AS) (hlen:env.length=29) (hcx:cx.esc= []):
  Pc Try.prog how cx [] 29 [4] (cr [.r, .l]) env σ (.normal) (σ) (fun env'=>Env.get env' 4= .nils):=by
 refine pc_of fun res hr=>?_
 simp -implicitDefEqProofs [AS.get_push_at,AS.get_push_old,AS.push_len,AS.set_st_len,AS.next_st',AS.set_push_at,AS.get_set_self,AS.get_set_other,cr,Try.f9,hlen,hcx] at hr
 subst hr
 refine ⟨_,rfl,by simp[hlen],by simp[Env.get_set,hlen],fun i hi=>?_⟩
 simp only[List.mem_cons,List.not_mem_nil,or_false,not_or] at hi
 simp only[putE,get_set2,hi,false_and,if_false]
theorem rB2 (cx:Cx) (env:Env) (σ:AS) (hlen:env.length=29) (hcx:cx.esc= []):
  Pc Try.prog how cx [] 29 [5] (cr [.r, .r, .l]) env σ (.normal) (σ) (fun env'=>Env.get env' 5= .nils):=by
 refine pc_of fun res hr=>?_
 simp -implicitDefEqProofs [AS.get_push_at,AS.get_push_old,AS.push_len,AS.set_st_len,AS.next_st',AS.set_push_at,AS.get_set_self,AS.get_set_other,cr,Try.f9,hlen,hcx] at hr
 subst hr
 refine ⟨_,rfl,by simp[hlen],by simp[Env.get_set,hlen],fun i hi=>?_⟩
 simp only[List.mem_cons,List.not_mem_nil,or_false,not_or] at hi
 simp only[putE,get_set2,hi,false_and,if_false]
theorem rC (cx:Cx) (env:Env) (σ:AS) (Z:AV) (n0:Nat) (hlen:env.length=29) (hcx:cx.esc= []) (f0:Env.get env 0=Z) (hl:lenA Try.prog σ 22 Z=some n0):
  Pc Try.prog how cx [] 29 [8,9,10] (cr [.r, .r, .r, .l, .l]) env σ (.normal) (σ) (fun env'=>Env.get env' 8=Z∧Env.get env' 9= .int .i64 (n0:Int)∧Env.get env' 10= .int .i64 0):=by
 refine pc_of fun res hr=>?_
 simp -implicitDefEqProofs [-lenA,AS.get_push_at,AS.get_push_old,AS.push_len,AS.set_st_len,AS.next_st',AS.set_push_at,AS.get_set_self,AS.get_set_other,cr,Try.f9,hlen,hcx,f0,hl] at hr
 subst hr
 refine ⟨_,rfl,by simp[hlen],by simp[Env.get_set,hlen,f0,hl],fun i hi=>?_⟩
 simp only[List.mem_cons,List.not_mem_nil,or_false,not_or] at hi
 simp only[putE,get_set2,hi,false_and,if_false]
theorem rE (cx:Cx) (env:Env) (σ:AS) (k:Nat) (Z p:AV) (v:Vt) (hlen:env.length=29) (hcx:cx.esc= []) (f8:Env.get env 8=Z) (f10:Env.get env 10= .int .i64 (k:Int)) (hia:indexAddrA Try.prog σ 22 Z (.int .i64 (k:Int))=some p) (hpa:loadA Try.prog σ 84 p=some (.agg [.int .i64 v.s, .int .u64 v.r, .int .i64 v.n, .str v.v])) (hw:wok cx.ro (.st σ.st.length)=true) (hh:cx.h≤σ.st.length):
  Pc Try.prog how cx [] 29 [6,7,12,13,14] (cr [.r, .r, .r, .l, .r, .i, .i, .r, .r, .l, .i, .l]) env σ (.normal) (σ.push false (.cells [.int .i64 v.s, .int .u64 v.r, .int .i64 v.n, .str v.v])) (fun env'=>Env.get env' 6= .int .i64 (k:Int)∧Env.get env' 7= .ptr (.st σ.st.length) 0):=by
 refine pc_of fun res hr=>?_
 simp -implicitDefEqProofs [-indexAddrA,-loadA,AS.get_push_at,AS.get_push_old,AS.push_len,AS.set_st_len,AS.next_st',AS.set_push_at,AS.get_set_self,AS.get_set_other,cr,Try.f9,hlen,hcx,f8,f10,hia,hpa,hw,hh] at hr
 subst hr
 refine ⟨_,rfl,by simp[hlen],by simp[Env.get_set,hlen,f8,f10,hia,hpa,hw,hh],fun i hi=>?_⟩
 simp only[List.mem_cons,List.not_mem_nil,or_false,not_or] at hi
 simp only[putE,get_set2,hi,false_and,if_false]
theorem r6 (cx:Cx) (env:Env) (σ:AS) (k:Nat) (hlen:env.length=29) (hcx:cx.esc= []) (f6:Env.get env 6= .int .i64 (k:Int)):
  Pc Try.prog how cx [] 29 [15,16] (cr [.r, .r, .r, .l, .r, .i, .i, .r, .r, .l, .i, .r, .l]) env σ (.normal) (σ) (fun env'=>Env.get env' 16= .bool (decide ((k:Int)<12))):=by
 refine pc_of fun res hr=>?_
 simp -implicitDefEqProofs [AS.get_push_at,AS.get_push_old,AS.push_len,AS.set_st_len,AS.next_st',AS.set_push_at,AS.get_set_self,AS.get_set_other,cr,Try.f9,hlen,hcx,f6] at hr
 subst hr
 refine ⟨_,rfl,by simp[hlen],by simp[Env.get_set,hlen,f6],fun i hi=>?_⟩
 simp only[List.mem_cons,List.not_mem_nil,or_false,not_or] at hi
 simp only[putE,get_set2,hi,false_and,if_false]
theorem r8 (cx:Cx) (env:Env) (σ:AS) (c:Nat) (v:Vt) (R R':AV) (σ':AS) (hlen:env.length=29) (hcx:cx.esc= []) (f4:Env.get env 4=R) (f7:Env.get env 7= .ptr (.st c) 0) (gd:σ.get (.st c)=some (.cells [.int .i64 v.s, .int .u64 v.r, .int .i64 v.n, .str v.v])) (hz: ∀σ,fzL cx.ro σ [.int .i64 v.s, .int .u64 v.r, .int .i64 v.n, .str v.v]=some ([.int .i64 v.s, .int .u64 v.r, .int .i64 v.n, .str v.v],σ)) (k1:callW Try.prog how 24 [.agg [.int .i64 v.s, .int .u64 v.r, .int .i64 v.n, .str v.v]] σ cx.ro=some (.agg [.int .i64 v.s, .int .u64 v.r, .int .i64 v.n, .str v.v],σ)) (hap:appendA Try.prog cx (σ.push false (.row [.agg [.int .i64 v.s, .int .u64 v.r, .int .i64 v.n, .str v.v]] 4 0 false)) [32,32] R (.row (.st σ.st.length) 0 0 1)=some (R',σ')):
  Pc Try.prog how cx [] 29 [4,17,18,19,20,21] (cr [.r, .r, .r, .l, .r, .i, .i, .r, .r, .l, .i, .r, .r, .l, .l]) env σ (.normal) (σ') (fun env'=>Env.get env' 4=R'):=by
 refine pc_of fun res hr=>?_
 simp -implicitDefEqProofs [-fzL,AS.get_push_at,AS.get_push_old,AS.push_len,AS.set_st_len,AS.next_st',AS.set_push_at,AS.get_set_self,AS.get_set_other,cr,Try.f9,hlen,hcx,f4,f7,gd,hz,k1,hap,elemA] at hr
 subst hr
 refine ⟨_,rfl,by simp[hlen],by simp[Env.get_set,hlen,f4,f7,gd,hz,k1,hap,elemA],fun i hi=>?_⟩
 simp only[List.mem_cons,List.not_mem_nil,or_false,not_or] at hi
 simp only[putE,get_set2,hi,false_and,if_false]
theorem r9 (cx:Cx) (env:Env) (σ:AS) (c:Nat) (v:Vt) (R R':AV) (σ':AS) (hlen:env.length=29) (hcx:cx.esc= []) (f5:Env.get env 5=R) (f7:Env.get env 7= .ptr (.st c) 0) (gd:σ.get (.st c)=some (.cells [.int .i64 v.s, .int .u64 v.r, .int .i64 v.n, .str v.v])) (hz: ∀σ,fzL cx.ro σ [.int .i64 v.s, .int .u64 v.r, .int .i64 v.n, .str v.v]=some ([.int .i64 v.s, .int .u64 v.r, .int .i64 v.n, .str v.v],σ)) (hap:appendA Try.prog cx (σ.push false (.row [.agg [.int .i64 v.s, .int .u64 v.r, .int .i64 v.n, .str v.v]] 4 0 false)) [22,22] R (.row (.st σ.st.length) 0 0 1)=some (R',σ')):
  Pc Try.prog how cx [] 29 [5,22,23,24,25] (cr [.r, .r, .r, .l, .r, .i, .i, .r, .r, .l, .i, .r, .r, .l, .r]) env σ (.normal) (σ') (fun env'=>Env.get env' 5=R'):=by
 refine pc_of fun res hr=>?_
 simp -implicitDefEqProofs [-fzL,AS.get_push_at,AS.get_push_old,AS.push_len,AS.set_st_len,AS.next_st',AS.set_push_at,AS.get_set_self,AS.get_set_other,cr,Try.f9,hlen,hcx,f5,f7,gd,hz,hap,elemA] at hr
 subst hr
 refine ⟨_,rfl,by simp[hlen],by simp[Env.get_set,hlen,f5,f7,gd,hz,hap,elemA],fun i hi=>?_⟩
 simp only[List.mem_cons,List.not_mem_nil,or_false,not_or] at hi
 simp only[putE,get_set2,hi,false_and,if_false]
theorem rZ (cx:Cx) (env:Env) (σ:AS) (A B:AV) (hlen:env.length=29) (hcx:cx.esc= []) (f4:Env.get env 4=A) (f5:Env.get env 5=B):
  Pc Try.prog how cx [] 29 [2,3,27,28] (cr [.r, .r, .r, .r, .l]) env σ (.normal) (σ) (fun env'=>Env.get env' 2=A∧Env.get env' 3=B):=by
 refine pc_of fun res hr=>?_
 simp -implicitDefEqProofs [AS.get_push_at,AS.get_push_old,AS.push_len,AS.set_st_len,AS.next_st',AS.set_push_at,AS.get_set_self,AS.get_set_other,cr,Try.f9,hlen,hcx,f4,f5] at hr
 subst hr
 refine ⟨_,rfl,by simp[hlen],by simp[Env.get_set,hlen,f4,f5],fun i hi=>?_⟩
 simp only[List.mem_cons,List.not_mem_nil,or_false,not_or] at hi
 simp only[putE,get_set2,hi,false_and,if_false]
end
noncomputable def bodyC:Code:=(.seq (cr [.l]) (.seq (cr [.r, .l]) (.seq (cr [.r, .r, .l]) (.seq (.seq (cr [.r, .r, .r, .l, .l]) (cr [.r, .r, .r, .l, .r])) (.seq (cr [.r, .r, .r, .r, .l]) .ret)))))
theorem body:Try.f9.body=some bodyC:=by kernel_rfl
def J (h:Nat) (σ0:AS) (X:AV) (l:List Vt) (k:Nat) (env:Env) (σ:AS):Prop:=
 Env.get env 8=X∧(∃R0 R1,Env.get env 4=R0∧Env.get env 5=R1∧Rows h σ [(4,R0,(l.take (min k 12)).map encVt),(4,R1,(l.take (min k 12)).map encVt)])∧Outside h σ0 σ
def Ex (h:Nat) (σ0:AS) (X:AV) (l:List Vt) (e:AExit) (env:Env) (σ:AS):Prop:=False
theorem J_stable {h:Nat} {σ0:AS} {X:AV} {l:List Vt}: ∀k env env' σ,env.length=29→env'.length=29→(∀i,i≠11→i≠26→i≠10→Env.get env' i=Env.get env i)→J h σ0 X l k env σ→J h σ0 X l k env' σ:=by
 rintro k env env' σ _ _ hf ⟨j8,⟨R0,R1,r0,r1,hR⟩,ho⟩
 exact ⟨(hf 8 (by decide) (by decide) (by decide)).trans j8,⟨R0,R1,(hf 4 (by decide) (by decide) (by decide)).trans r0,(hf 5 (by decide) (by decide) (by decide)).trans r1,hR⟩,ho⟩
noncomputable def oT:Oper:=(opsOf (cr [.r, .r, .r, .l, .r, .i, .i, .l])).headD default
noncomputable def oI:List Oper:=opsOf (cr [.r, .r, .r, .l, .r, .i, .i, .r, .r, .r])
theorem loop_eq:(cr [.r, .r, .r, .l, .r])= .block 0 (.loop (.seq (.region 4 #[oT] false) (.seq (.cond (.tmp 11) .skip (.exit 0)) (.seq (.block 1 (.seq (cr [.r, .r, .r, .l, .r, .i, .i, .r, .r, .l, .i, .l]) (.seq (cr [.r, .r, .r, .l, .r, .i, .i, .r, .r, .l, .i, .r, .l]) (.cond (.tmp 16) (.seq (cr [.r, .r, .r, .l, .r, .i, .i, .r, .r, .l, .i, .r, .r, .l, .l]) (cr [.r, .r, .r, .l, .r, .i, .i, .r, .r, .l, .i, .r, .r, .l, .r])) .skip)))) (.region 9 #[oI.headD default,(oI.drop 1).headD default] false))))):=by kernel_rfl
theorem step (cx:Cx) (hcx:cx.esc= []) (hro: ∀k,cx.ro=some k→k≤cx.h) (σ0:AS) (X:AV) (l:List Vt) (hS: ∀σ,Rd Try.prog σ 22 84 X (l.map encVt)):
  ∀k env σ,k<l.length→env.length=29→Env.get env 10= .int .i64 (k:Int)→Env.get env 9= .int .i64 ((l.length:Nat):Int)→J cx.h σ0 X l k env σ→ ∃e env' σ',execW Try.prog cx [] (callW Try.prog how) (.block 1 (.seq (cr [.r, .r, .r, .l, .r, .i, .i, .r, .r, .l, .i, .l]) (.seq (cr [.r, .r, .r, .l, .r, .i, .i, .r, .r, .l, .i, .r, .l]) (.cond (.tmp 16) (.seq (cr [.r, .r, .r, .l, .r, .i, .i, .r, .r, .l, .i, .r, .r, .l, .l]) (cr [.r, .r, .r, .l, .r, .i, .i, .r, .r, .l, .i, .r, .r, .l, .r])) .skip)))) (env,σ)=some (e,(env',σ'))∧
   ((e= .normal∧env'.length=29∧Env.get env' 10= .int .i64 (k:Int)∧Env.get env' 9= .int .i64 ((l.length:Nat):Int)∧J cx.h σ0 X l (k+1) env' σ')∨(e≠ .normal∧Ex cx.h σ0 X l e env' σ')):=by
 rintro k env σ hk hlen f10 f9 ⟨f8,⟨R0,R1,f4,f5,hR⟩,ho⟩
 obtain ⟨pp,hia,hpa⟩:=(hS σ).2 k (encVt l[k]) (get_el hk)
 obtain ⟨env1,x1a,x1b,x1c,x1d⟩:=rE cx env σ k X pp (l[k]) hlen hcx f8 f10 hia hpa (wokst hro ho.2.2) ho.2.2
 have f4:=(x1d 4 (by decide)).trans f4
 have f5:=(x1d 5 (by decide)).trans f5
 have f8:=(x1d 8 (by decide)).trans f8
 have f9:=(x1d 9 (by decide)).trans f9
 have f10:=(x1d 10 (by decide)).trans f10
 have f6:=x1c.1
 have f7:=x1c.2
 have g1:((σ:AS).push false (.cells [.int .i64 l[k].s, .int .u64 l[k].r, .int .i64 l[k].n, .str l[k].v])).get (.st (σ:AS).st.length)=some (.cells [.int .i64 l[k].s, .int .u64 l[k].r, .int .i64 l[k].n, .str l[k].v]):=AS.get_push_at rfl
 have hR:=hR.push (ob:= .cells [.int .i64 l[k].s, .int .u64 l[k].r, .int .i64 l[k].n, .str l[k].v])
 have ho:=ho.push (ob:= .cells [.int .i64 l[k].s, .int .u64 l[k].r, .int .i64 l[k].n, .str l[k].v])
 generalize hib1:(σ:AS).st.length=ib1 at g1 f7
 generalize (σ:AS).push false (.cells [.int .i64 l[k].s, .int .u64 l[k].r, .int .i64 l[k].n, .str l[k].v])=σ1 at x1a g1 hR ho
 obtain ⟨env2,x2a,x2b,x2c,x2d⟩:=r6 cx env1 σ1 k x1b hcx f6
 have f4:=(x2d 4 (by decide)).trans f4
 have f5:=(x2d 5 (by decide)).trans f5
 have f6:=(x2d 6 (by decide)).trans f6
 have f7:=(x2d 7 (by decide)).trans f7
 have f8:=(x2d 8 (by decide)).trans f8
 have f9:=(x2d 9 (by decide)).trans f9
 have f10:=(x2d 10 (by decide)).trans f10
 have f16:=x2c
 have ev1:=ev_tmp f16
 by_cases q:k<12
 ·skip
  rw[decide_eq_true (show (k:Int)<12 by omega)] at ev1
  have k1:=vote_c (σ1).hp (σ1).st cx.ro l[k] (fun j hj=>Nat.le_trans (hro j hj) ho.2.2)
  obtain ⟨R3,τ3,y3a,y3b,y3c,y3d,y3e⟩:=append_one (cx:=cx) (x:=encVt l[k]) (j:=0) appV hR rfl (by rw[List.length_map,List.length_take]; omega) (by decide) hro ho.2.2
  obtain ⟨env3,x3a,x3b,x3c,x3d⟩:=r8 cx env2 σ1 _ (l[k]) _ R3 τ3 x2b hcx f4 f7 g1 (fun σ=>by simp[fzL]) k1 y3a
  have f5:=(x3d 5 (by decide)).trans f5
  have f6:=(x3d 6 (by decide)).trans f6
  have f7:=(x3d 7 (by decide)).trans f7
  have f8:=(x3d 8 (by decide)).trans f8
  have f9:=(x3d 9 (by decide)).trans f9
  have f10:=(x3d 10 (by decide)).trans f10
  have f16:=(x3d 16 (by decide)).trans f16
  have f4:=x3c
  have hR:=y3c
  have ho:=y3e _ ho
  have g1:=y3d _ _ g1
  obtain ⟨R4,τ4,y4a,y4b,y4c,y4d,y4e⟩:=append_one (cx:=cx) (x:=encVt l[k]) (j:=1) appW hR rfl (by rw[List.length_map,List.length_take]; omega) (by decide) hro ho.2.2
  obtain ⟨env4,x4a,x4b,x4c,x4d⟩:=r9 cx env3 τ3 _ (l[k]) _ R4 τ4 x3b hcx f5 f7 g1 (fun σ=>by simp[fzL]) y4a
  have f4:=(x4d 4 (by decide)).trans f4
  have f6:=(x4d 6 (by decide)).trans f6
  have f7:=(x4d 7 (by decide)).trans f7
  have f8:=(x4d 8 (by decide)).trans f8
  have f9:=(x4d 9 (by decide)).trans f9
  have f10:=(x4d 10 (by decide)).trans f10
  have f16:=(x4d 16 (by decide)).trans f16
  have f5:=x4c
  have hR:=y4c
  have ho:=y4e _ ho
  exact ⟨.normal,env4,_,(execW_block_of (execW_seq_of x1a (execW_seq_of x2a (execW_cond_t ev1 (execW_seq_of x3a x4a))))), .inl ⟨rfl,x4b,f10,f9,f8,⟨_,_,f4,f5,(by rw[take_lt hk q,List.map_append]; exact hR)⟩,ho⟩⟩
 ·skip
  rw[decide_eq_false (show¬(k:Int)<12 by omega)] at ev1
  exact ⟨.normal,env2,_,(execW_block_of (execW_seq_of x1a (execW_seq_of x2a (execW_cond_f ev1 (by rfl))))), .inl ⟨rfl,x2b,f10,f9,f8,⟨_,_,f4,f5,(by rw[take_ge q]; exact hR)⟩,ho⟩⟩
theorem loop (cx:Cx) (hcx:cx.esc= []) (hro: ∀k,cx.ro=some k→k≤cx.h) (σ0:AS) (X:AV) (l:List Vt) (hS: ∀σ,Rd Try.prog σ 22 84 X (l.map encVt)) (hnn:l.length≤9223372036854775807) {env:Env} {σ:AS} (hl:env.length=29) (h1:Env.get env 10= .int .i64 0) (h2:Env.get env 9= .int .i64 ((l.length:Nat):Int)) (h0:J cx.h σ0 X l 0 env σ):
  ∃e env' σ',execW Try.prog cx [] (callW Try.prog how) (cr [.r, .r, .r, .l, .r]) (env,σ)=some (e,(env',σ'))∧((e= .normal∧((env'.length=29∧J cx.h σ0 X l (l.length) env' σ')∨Ex cx.h σ0 X l (.exit 0) env' σ'))∨(e≠ .normal∧e≠ .exit 0∧Ex cx.h σ0 X l e env' σ')):=by
 rw[loop_eq]
 exact range_std (Ex:=Ex cx.h σ0 X l) (N:=29) (tc:=11) (ti:=10) (tl:=9) (tx:=26) (ty1:=3) (ty2:=3) (ty3:=3) (ty4:=3) ⟨by kernel_rfl,by kernel_rfl,by kernel_rfl⟩ ⟨by kernel_rfl,by kernel_rfl,by kernel_rfl⟩ ⟨by kernel_rfl,by kernel_rfl,by kernel_rfl⟩ (by decide) hnn J_stable (step cx hcx hro σ0 X l hS) hl h1 h2 h0
theorem ok (hp s:List AObj) (ro:Option Nat) (X:AV) (l:List Vt) (hro': ∀k,ro=some k→k≤s.length) (hS: ∀σ,Rd Try.prog σ 22 84 X (l.map encVt)) (hn:l.length≤9223372036854775807):
  callW Try.prog how 9 [X] ⟨hp,s⟩ ro=some (.tup [slV 4 ((l.take 12).map encVt),slV 4 ((l.take 12).map encVt)],⟨hp,s⟩):=by
 let cx:Cx:={h:=s.length,ro:=ro,esc:= []}
 have hcx:cx.esc= []:=rfl
 have hro: ∀k,cx.ro=some k→k≤cx.h:=hro'
 obtain ⟨env,henv⟩: ∃e,e=frameA Try.f9 [X]:=⟨_,rfl⟩
 have hlen:env.length=29:=by rw[henv]; rfl
 have f0:Env.get env 0=X:=by rw[henv]; rfl
 have ho:Outside s.length (AS.mk hp s) (AS.mk hp s):=Outside.refl (Nat.le_refl _)
 obtain ⟨env1,x1a,x1b,x1c,x1d⟩:=rA cx env (AS.mk hp s) hlen hcx
 have f0:=(x1d 0 (by decide)).trans f0
 have f2:=x1c.1
 have f3:=x1c.2
 obtain ⟨env2,x2a,x2b,x2c,x2d⟩:=rB cx env1 (AS.mk hp s) x1b hcx
 have f0:=(x2d 0 (by decide)).trans f0
 have f2:=(x2d 2 (by decide)).trans f2
 have f3:=(x2d 3 (by decide)).trans f3
 have f4:=x2c
 obtain ⟨env3,x3a,x3b,x3c,x3d⟩:=rB2 cx env2 (AS.mk hp s) x2b hcx
 have f0:=(x3d 0 (by decide)).trans f0
 have f2:=(x3d 2 (by decide)).trans f2
 have f3:=(x3d 3 (by decide)).trans f3
 have f4:=(x3d 4 (by decide)).trans f4
 have f5:=x3c
 have hl0:=(hS ⟨hp,s⟩).1
 rw[List.length_map] at hl0
 obtain ⟨env4,x4a,x4b,x4c,x4d⟩:=rC cx env3 (AS.mk hp s) _ l.length x3b hcx f0 hl0
 have f0:=(x4d 0 (by decide)).trans f0
 have f2:=(x4d 2 (by decide)).trans f2
 have f3:=(x4d 3 (by decide)).trans f3
 have f4:=(x4d 4 (by decide)).trans f4
 have f5:=(x4d 5 (by decide)).trans f5
 have f8:=x4c.1
 have f9:=x4c.2.1
 have f10:=x4c.2.2
 obtain ⟨e5,env5,σ5,x5a,x5p⟩:=loop cx hcx hro ⟨hp,s⟩ X l hS (hn) (σ:=AS.mk hp s) x4b f10 f9 (⟨f8,⟨.nils, .nils,f4,f5,by rw[Nat.zero_min,List.take_zero]; exact Rows2⟩,ho⟩)
 rcases x5p with ⟨rfl,⟨x5b,f8,⟨R0,R1,f4,f5,hR⟩,ho⟩ | x5p⟩ | ⟨x5q,x5r,x5p⟩
 ·skip
  have et:l.take (min l.length 12)=l.take 12:=by
   by_cases q:l.length≤12
   ·rw[Nat.min_eq_left q,List.take_length,List.take_of_length_le q]
   ·rw[Nat.min_eq_right (by omega)]
  rw[et] at hR
  obtain ⟨env6,x6a,x6b,x6c,x6d⟩:=rZ cx env5 σ5 R0 R1 x5b hcx f4 f5
  have f4:=(x6d 4 (by decide)).trans f4
  have f5:=(x6d 5 (by decide)).trans f5
  have f8:=(x6d 8 (by decide)).trans f8
  have f2:=x6c.1
  have f3:=x6c.2
  have hB0:=hR.1 _ (List.mem_cons_self ..)
  have hB1:=hR.1 _ (List.mem_cons_of_mem _ (List.mem_singleton_self _))
  exact call_of (fl:={}) (fn:=Try.f9) (c:=bodyC) (env:=env) (e:=(.ret,(env6,σ5))) rfl Try.func9 body henv (by unfold bodyC; exact (execW_seq_of x1a (execW_seq_of x2a (execW_seq_of x3a (execW_seq_of (execW_seq_of x4a x5a) (execW_seq_of x6a (by rfl))))))) ((fin_two (.inl rfl) rfl (show resA _ _ _ [.tmp 2, .tmp 3]=some [R0,R1] by simp only[resA]; rw[f2,f3]) (show (AV.tup [R0,R1]).back s.length _=_ by simp only[AV.back,AVs.back]; rw[hB0.back,hB1.back]) (by simp only[AV.inb,AVs.inb,slV_inb,Bool.and_self])).trans (congrArg (fun x=>some (_,x)) (outside_st ho)))
 ·cases x5p
 ·cases x5p
end LVotes
