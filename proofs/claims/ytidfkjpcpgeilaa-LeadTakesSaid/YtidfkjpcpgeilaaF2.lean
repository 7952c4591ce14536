/- Walk 2. -/

import Derived.Test.YtidfkjpcpgeilaaF1
open Go Go.Abs Go.Proofs
set_option maxRecDepth 100000
set_option maxHeartbeats 4000000
set_option linter.unusedSimpArgs false
set_option linter.unusedVariables false
theorem hasX {v k:Int} (hv:MOk v) (h0:0≤k) (h1:k<5):decide (wr IntKind.u8 ↑((v.fdiv (2 ^ min k.toNat IntKind.u8.bits) % 2 ^ IntKind.u8.bits).toNat &&& 1 % 2 ^ IntKind.u8.bits)=1)=hasM v k:=by
 refine mok_cases (p:=fun v=>decide (wr IntKind.u8 ↑((v.fdiv (2 ^ min k.toNat IntKind.u8.bits) % 2 ^ IntKind.u8.bits).toNat &&& 1 % 2 ^ IntKind.u8.bits)=1)=hasM v k) (fun m=>?_) hv
 refine node_cases (p:=fun k=>decide (wr IntKind.u8 ↑((((m:Nat):Int).fdiv (2 ^ min k.toNat IntKind.u8.bits) % 2 ^ IntKind.u8.bits).toNat &&& 1 % 2 ^ IntKind.u8.bits)=1)=hasM ((m:Nat):Int) k) (fun k=>?_) h0 h1
 have: ∀(m:Fin 32) (k:Fin 5),decide (wr IntKind.u8 ↑((((m:Nat):Int).fdiv (2 ^ min (((k:Nat):Int)).toNat IntKind.u8.bits) % 2 ^ IntKind.u8.bits).toNat &&& 1 % 2 ^ IntKind.u8.bits)=1)=hasM ((m:Nat):Int) ((k:Nat):Int):=by decide
 exact this m k
section
attribute [local simp] ofV ofCell ofCells seqA_nil seqA_cons seqVK_eq seqEK_eq wantedA yieldedA isVal effA ev evs evps putE optsA optsOk valA fieldAddrA fieldA loadA partA aggA isAggD buildA placesA fillA lay storeA AV.withCells buildSliceA elemsA rowParts fzL promL okE isSrc bytesOk pushA cxOf lenA binA intBinA strBinA unA indexAddrA eqA AVs.inb AV.inb Loc.inb calleeA opsOf sub bodyOf Env.get_set quietA_nil quietA_cons quietK_none quietK_some qstep newA isNew escNew boxOk newLoc flat rowPartsQ quietN quietOp isBS List.takeWhile finishA_eq finK_ret finK_normal retK backK resA oneA AV.back AVs.back execW_seq_eq seqK_normal seqK_ret seqK_exit execW_cond_eq condK_true condK_false execW_block_eq blockK_exit blockK_normal blockK_ret execW_region_eq regK_eq execW_skip execW_exit execW_ret regionA_plain regionA_quiet0 tailK_eq nilCheckA guardOk isConst lookupA keyFits mapUpdateA beqI bneI
theorem has_in (hp s:List AObj) (ro:Option Nat) (v k:Int) (hro: ∀k,ro=some k→k≤s.length) (k1:callW Try.prog how 45 [.int .i64 k] ⟨hp,s⟩ ro=some (.bool true,⟨hp,s⟩)) (p3: ¬k<0) (hx:decide (wr IntKind.u8 ↑((v.fdiv (2 ^ min k.toNat IntKind.u8.bits) % 2 ^ IntKind.u8.bits).toNat &&& 1 % 2 ^ IntKind.u8.bits)=1)=hasM v k):
  callW Try.prog how 26 [.int .u8 v, .int .i64 k] ⟨hp,s⟩ ro=some (.bool (hasM v k),⟨hp,s⟩):=by
 refine callW_body (fl:={}) (fn:=Try.f26) (c:=bodyOf Try.f26) rfl Try.func26 rfl ?_
 have henv: ∃e,e=frameA Try.f26 [.int .u8 v, .int .i64 k]:=⟨_,rfl⟩
 obtain ⟨env,henv⟩:=henv
 have hl:env.length=14:=by rw[henv]; rfl
 have h0:Env.get env 0= .int .u8 v:=by rw[henv]; rfl
 have h1:Env.get env 1= .int .i64 k:=by rw[henv]; rfl
 rw[←henv]
 clear henv
 simp -implicitDefEqProofs [Try.f26,hl,h0,h1,wok_le hro,wok_le' hro,k1,p3,shiftA,hx]
theorem has_out (hp s:List AObj) (ro:Option Nat) (v k:Int) (hro: ∀k,ro=some k→k≤s.length) (k1:callW Try.prog how 45 [.int .i64 k] ⟨hp,s⟩ ro=some (.bool false,⟨hp,s⟩)) (hx:hasM v k=false):
  callW Try.prog how 26 [.int .u8 v, .int .i64 k] ⟨hp,s⟩ ro=some (.bool (hasM v k),⟨hp,s⟩):=by
 refine callW_body (fl:={}) (fn:=Try.f26) (c:=bodyOf Try.f26) rfl Try.func26 rfl ?_
 have henv: ∃e,e=frameA Try.f26 [.int .u8 v, .int .i64 k]:=⟨_,rfl⟩
 obtain ⟨env,henv⟩:=henv
 have hl:env.length=14:=by rw[henv]; rfl
 have h0:Env.get env 0= .int .u8 v:=by rw[henv]; rfl
 have h1:Env.get env 1= .int .i64 k:=by rw[henv]; rfl
 rw[←henv]
 clear henv
 simp -implicitDefEqProofs [Try.f26,hl,h0,h1,wok_le hro,wok_le' hro,k1,hx]
end
theorem has_c (hp s:List AObj) (ro:Option Nat) (v k:Int) (hro: ∀k,ro=some k→k≤s.length) (hv:MOk v):callW Try.prog how 26 [.int .u8 v, .int .i64 k] ⟨hp,s⟩ ro=some (.bool (hasM v k),⟨hp,s⟩):=by
 have k1:=master_c hp s ro k hro
 by_cases q:0≤k∧k<5
 ·rw[decide_eq_true q.1,decide_eq_true q.2] at k1
  exact has_in hp s ro v k hro k1 (by omega) (hasX hv q.1 q.2)
 ·have e:(decide (0≤k) && decide (k<5))=false:=by
   rw[Bool.and_eq_false_iff,decide_eq_false_iff_not,decide_eq_false_iff_not]
   omega
  rw[e] at k1
  refine has_out hp s ro v k hro k1 ?_
  unfold hasM
  rw[←Bool.and_assoc,e]
  rfl
section
attribute [local simp] ofV ofCell ofCells seqA_nil seqA_cons seqVK_eq seqEK_eq wantedA yieldedA isVal effA ev evs evps putE optsA optsOk valA fieldAddrA fieldA loadA partA aggA isAggD buildA placesA fillA lay storeA AV.withCells buildSliceA elemsA rowParts fzL promL okE isSrc bytesOk pushA cxOf lenA binA intBinA strBinA unA indexAddrA eqA AVs.inb AV.inb Loc.inb calleeA opsOf sub bodyOf Env.get_set quietA_nil quietA_cons quietK_none quietK_some qstep newA isNew escNew boxOk newLoc flat rowPartsQ quietN quietOp isBS List.takeWhile finishA_eq finK_ret finK_normal retK backK resA oneA AV.back AVs.back execW_seq_eq seqK_normal seqK_ret seqK_exit execW_cond_eq condK_true condK_false execW_block_eq blockK_exit blockK_normal blockK_ret execW_region_eq regK_eq execW_skip execW_exit execW_ret regionA_plain regionA_quiet0 tailK_eq nilCheckA guardOk isConst lookupA keyFits mapUpdateA beqI bneI
theorem with_in (hp s:List AObj) (ro:Option Nat) (v k:Int) (hro: ∀k,ro=some k→k≤s.length) (k1:callW Try.prog how 45 [.int .i64 k] ⟨hp,s⟩ ro=some (.bool true,⟨hp,s⟩)) (p3: ¬k<0) (hx:wr IntKind.u8 ↑((v % 2 ^ IntKind.u8.bits).toNat ||| (wr IntKind.u8 (2 ^ min k.toNat IntKind.u8.bits) % 2 ^ IntKind.u8.bits).toNat)=withM v k):
  callW Try.prog how 27 [.int .u8 v, .int .i64 k] ⟨hp,s⟩ ro=some (.int .u8 (withM v k),⟨hp,s⟩):=by
 refine callW_body (fl:={}) (fn:=Try.f27) (c:=bodyOf Try.f27) rfl Try.func27 rfl ?_
 have henv: ∃e,e=frameA Try.f27 [.int .u8 v, .int .i64 k]:=⟨_,rfl⟩
 obtain ⟨env,henv⟩:=henv
 have hl:env.length=13:=by rw[henv]; rfl
 have h0:Env.get env 0= .int .u8 v:=by rw[henv]; rfl
 have h1:Env.get env 1= .int .i64 k:=by rw[henv]; rfl
 rw[←henv]
 clear henv
 simp -implicitDefEqProofs [Try.f27,hl,h0,h1,wok_le hro,wok_le' hro,k1,p3,shiftA,hx]
theorem with_out (hp s:List AObj) (ro:Option Nat) (v k:Int) (hro: ∀k,ro=some k→k≤s.length) (k1:callW Try.prog how 45 [.int .i64 k] ⟨hp,s⟩ ro=some (.bool false,⟨hp,s⟩)) (hx:withM v k=v):
  callW Try.prog how 27 [.int .u8 v, .int .i64 k] ⟨hp,s⟩ ro=some (.int .u8 (withM v k),⟨hp,s⟩):=by
 refine callW_body (fl:={}) (fn:=Try.f27) (c:=bodyOf Try.f27) rfl Try.func27 rfl ?_
 have henv: ∃e,e=frameA Try.f27 [.int .u8 v, .int .i64 k]:=⟨_,rfl⟩
 obtain ⟨env,henv⟩:=henv
 have hl:env.length=13:=by rw[henv]; rfl
 have h0:Env.get env 0= .int .u8 v:=by rw[henv]; rfl
 have h1:Env.get env 1= .int .i64 k:=by rw[henv]; rfl
 rw[←henv]
 clear henv
 simp -implicitDefEqProofs [Try.f27,hl,h0,h1,wok_le hro,wok_le' hro,k1,hx]
end
theorem withX {v k:Int} (hv:MOk v) (h0:0≤k) (h1:k<5):wr IntKind.u8 ↑((v % 2 ^ IntKind.u8.bits).toNat ||| (wr IntKind.u8 (2 ^ min k.toNat IntKind.u8.bits) % 2 ^ IntKind.u8.bits).toNat)=withM v k:=by
 refine mok_cases (p:=fun v=>wr IntKind.u8 ↑((v % 2 ^ IntKind.u8.bits).toNat ||| (wr IntKind.u8 (2 ^ min k.toNat IntKind.u8.bits) % 2 ^ IntKind.u8.bits).toNat)=withM v k) (fun m=>?_) hv
 refine node_cases (p:=fun k=>wr IntKind.u8 ↑((((m:Nat):Int) % 2 ^ IntKind.u8.bits).toNat ||| (wr IntKind.u8 (2 ^ min k.toNat IntKind.u8.bits) % 2 ^ IntKind.u8.bits).toNat)=withM ((m:Nat):Int) k) (fun k=>?_) h0 h1
 have: ∀(m:Fin 32) (k:Fin 5),wr IntKind.u8 ↑((((m:Nat):Int) % 2 ^ IntKind.u8.bits).toNat ||| (wr IntKind.u8 (2 ^ min (((k:Nat):Int)).toNat IntKind.u8.bits) % 2 ^ IntKind.u8.bits).toNat)=withM ((m:Nat):Int) ((k:Nat):Int):=by decide
 exact this m k
theorem with_c (hp s:List AObj) (ro:Option Nat) (v k:Int) (hro: ∀k,ro=some k→k≤s.length) (hv:MOk v):callW Try.prog how 27 [.int .u8 v, .int .i64 k] ⟨hp,s⟩ ro=some (.int .u8 (withM v k),⟨hp,s⟩):=by
 have k1:=master_c hp s ro k hro
 by_cases q:0≤k∧k<5
 ·rw[decide_eq_true q.1,decide_eq_true q.2] at k1
  exact with_in hp s ro v k hro k1 (by omega) (withX hv q.1 q.2)
 ·have e:(decide (0≤k) && decide (k<5))=false:=by
   rw[Bool.and_eq_false_iff,decide_eq_false_iff_not,decide_eq_false_iff_not]
   omega
  rw[e] at k1
  refine with_out hp s ro v k hro k1 ?_
  unfold withM
  rw[e]
  rfl
def amN (v:Int) (k:Nat):Nat:=((List.range k).filter fun (j:Nat)=>hasM v (j:Int)).length
theorem amN_succ (v:Int) (k:Nat):amN v (k+1)=amN v k+if hasM v (k:Int)=true then 1 else 0:=by
 unfold amN
 rw[List.range_succ,List.filter_append,List.length_append]
 congr 1
 by_cases h:hasM v (k:Int)=true <;> simp[h]
theorem amN_le (v:Int) (k:Nat):amN v k≤k:=by
 unfold amN
 refine Nat.le_trans (List.length_filter_le _ _) (by simp)
namespace F46
noncomputable def cr (p:List Dir):Code:=sub p (bodyOf Try.f46)
section
attribute [local simp] ofV ofCell ofCells seqA_nil seqA_cons seqVK_eq seqEK_eq wantedA yieldedA isVal effA ev evs evps putE optsA optsOk valA fieldAddrA fieldA loadA partA aggA isAggD buildA placesA fillA lay storeA AV.withCells buildSliceA elemsA rowParts fzL promL okE isSrc bytesOk pushA cxOf lenA binA intBinA strBinA unA indexAddrA eqA AVs.inb AV.inb Loc.inb calleeA opsOf sub bodyOf Env.get_set quietA_nil quietA_cons quietK_none quietK_some qstep newA isNew escNew boxOk newLoc flat rowPartsQ quietN quietOp isBS List.takeWhile finishA_eq finK_ret finK_normal retK backK resA oneA AV.back AVs.back execW_seq_eq seqK_normal seqK_ret seqK_exit execW_cond_eq condK_true condK_false execW_block_eq blockK_exit blockK_normal blockK_ret execW_region_eq regK_eq execW_skip execW_exit execW_ret regionA_plain regionA_quiet0 tailK_eq nilCheckA guardOk isConst lookupA keyFits mapUpdateA beqI bneI
theorem rA (cx:Cx) (env:Env) (σ:AS) (hlen:env.length=18) (hcx:cx.esc= []):
  Pc Try.prog how cx [] 18 [4] (cr [.l]) env σ (.normal) (σ) (fun env'=>Env.get env' 4= .int .i64 0):=by
 refine pc_of fun res hr=>?_
 simp -implicitDefEqProofs [AS.get_push_at,AS.get_push_old,AS.push_len,AS.set_st_len,AS.next_st',AS.set_push_at,AS.get_set_self,AS.get_set_other,cr,Try.f46,hlen,hcx] at hr
 subst hr
 refine ⟨_,rfl,by simp[hlen],by simp[Env.get_set,hlen],fun i hi=>?_⟩
 simp only[List.mem_cons,List.not_mem_nil,or_false,not_or] at hi
 simp only[putE,get_set2,hi,false_and,if_false]
theorem rB (cx:Cx) (env:Env) (σ:AS) (hlen:env.length=18) (hcx:cx.esc= []):
  Pc Try.prog how cx [] 18 [5] (cr [.r, .l]) env σ (.normal) (σ) (fun env'=>Env.get env' 5= .int .i64 0):=by
 refine pc_of fun res hr=>?_
 simp -implicitDefEqProofs [AS.get_push_at,AS.get_push_old,AS.push_len,AS.set_st_len,AS.next_st',AS.set_push_at,AS.get_set_self,AS.get_set_other,cr,Try.f46,hlen,hcx] at hr
 subst hr
 refine ⟨_,rfl,by simp[hlen],by simp[Env.get_set,hlen],fun i hi=>?_⟩
 simp only[List.mem_cons,List.not_mem_nil,or_false,not_or] at hi
 simp only[putE,get_set2,hi,false_and,if_false]
theorem rC (cx:Cx) (env:Env) (σ:AS) (n:Nat) (hlen:env.length=18) (hcx:cx.esc= []) (f1:Env.get env 1= .int .i64 (n:Int)):
  Pc Try.prog how cx [] 18 [7,8] (cr [.r, .r, .l, .l]) env σ (.normal) (σ) (fun env'=>Env.get env' 7= .int .i64 (n:Int)∧Env.get env' 8= .int .i64 0):=by
 refine pc_of fun res hr=>?_
 simp -implicitDefEqProofs [AS.get_push_at,AS.get_push_old,AS.push_len,AS.set_st_len,AS.next_st',AS.set_push_at,AS.get_set_self,AS.get_set_other,cr,Try.f46,hlen,hcx,f1] at hr
 subst hr
 refine ⟨_,rfl,by simp[hlen],by simp[Env.get_set,hlen,f1],fun i hi=>?_⟩
 simp only[List.mem_cons,List.not_mem_nil,or_false,not_or] at hi
 simp only[putE,get_set2,hi,false_and,if_false]
theorem rE (cx:Cx) (env:Env) (σ:AS) (k:Int) (hlen:env.length=18) (hcx:cx.esc= []) (f8:Env.get env 8= .int .i64 k):
  Pc Try.prog how cx [] 18 [6,10] (cr [.r, .r, .l, .r, .i, .i, .r, .r, .l, .i, .l]) env σ (.normal) (σ) (fun env'=>Env.get env' 6= .int .i64 k):=by
 refine pc_of fun res hr=>?_
 simp -implicitDefEqProofs [AS.get_push_at,AS.get_push_old,AS.push_len,AS.set_st_len,AS.next_st',AS.set_push_at,AS.get_set_self,AS.get_set_other,cr,Try.f46,hlen,hcx,f8] at hr
 subst hr
 refine ⟨_,rfl,by simp[hlen],by simp[Env.get_set,hlen,f8],fun i hi=>?_⟩
 simp only[List.mem_cons,List.not_mem_nil,or_false,not_or] at hi
 simp only[putE,get_set2,hi,false_and,if_false]
theorem rF (cx:Cx) (env:Env) (σ:AS) (v k:Int) (b:Bool) (hlen:env.length=18) (hcx:cx.esc= []) (f0:Env.get env 0= .int .u8 v) (f6:Env.get env 6= .int .i64 k) (h:callW Try.prog how 26 [.int .u8 v, .int .i64 k] σ cx.ro=some (.bool b,σ)):
  Pc Try.prog how cx [] 18 [11,12,13] (cr [.r, .r, .l, .r, .i, .i, .r, .r, .l, .i, .r, .l]) env σ (.normal) (σ) (fun env'=>Env.get env' 13= .bool b):=by
 refine pc_of fun res hr=>?_
 simp -implicitDefEqProofs [AS.get_push_at,AS.get_push_old,AS.push_len,AS.set_st_len,AS.next_st',AS.set_push_at,AS.get_set_self,AS.get_set_other,cr,Try.f46,hlen,hcx,f0,f6,h] at hr
 subst hr
 refine ⟨_,rfl,by simp[hlen],by simp[Env.get_set,hlen,f0,f6,h],fun i hi=>?_⟩
 simp only[List.mem_cons,List.not_mem_nil,or_false,not_or] at hi
 simp only[putE,get_set2,hi,false_and,if_false]
theorem rG (cx:Cx) (env:Env) (σ:AS) (x:Int) (hlen:env.length=18) (hcx:cx.esc= []) (f5:Env.get env 5= .int .i64 x) (hw:wr .i64 (x+1)=x+1):
  Pc Try.prog how cx [] 18 [5,14,15] (cr [.r, .r, .l, .r, .i, .i, .r, .r, .l, .i, .r, .r, .l]) env σ (.normal) (σ) (fun env'=>Env.get env' 5= .int .i64 (x+1)):=by
 refine pc_of fun res hr=>?_
 simp -implicitDefEqProofs [AS.get_push_at,AS.get_push_old,AS.push_len,AS.set_st_len,AS.next_st',AS.set_push_at,AS.get_set_self,AS.get_set_other,cr,Try.f46,hlen,hcx,f5,hw] at hr
 subst hr
 refine ⟨_,rfl,by simp[hlen],by simp[Env.get_set,hlen,f5,hw],fun i hi=>?_⟩
 simp only[List.mem_cons,List.not_mem_nil,or_false,not_or] at hi
 simp only[putE,get_set2,hi,false_and,if_false]
theorem rZ (cx:Cx) (env:Env) (σ:AS) (x:Int) (hlen:env.length=18) (hcx:cx.esc= []) (f5:Env.get env 5= .int .i64 x):
  Pc Try.prog how cx [] 18 [4,17] (cr [.r, .r, .r, .l]) env σ (.normal) (σ) (fun env'=>Env.get env' 4= .int .i64 x):=by
 refine pc_of fun res hr=>?_
 simp -implicitDefEqProofs [AS.get_push_at,AS.get_push_old,AS.push_len,AS.set_st_len,AS.next_st',AS.set_push_at,AS.get_set_self,AS.get_set_other,cr,Try.f46,hlen,hcx,f5] at hr
 subst hr
 refine ⟨_,rfl,by simp[hlen],by simp[Env.get_set,hlen,f5],fun i hi=>?_⟩
 simp only[List.mem_cons,List.not_mem_nil,or_false,not_or] at hi
 simp only[putE,get_set2,hi,false_and,if_false]
end
noncomputable def bodyC:Code:=(.seq (cr [.l]) (.seq (cr [.r, .l]) (.seq (.seq (cr [.r, .r, .l, .l]) (cr [.r, .r, .l, .r])) (.seq (cr [.r, .r, .r, .l]) .ret))))
theorem body:Try.f46.body=some bodyC:=by kernel_rfl
def J (h:Nat) (σ0:AS) (v:Int) (n:Nat) (k:Nat) (env:Env) (σ:AS):Prop:=
 Env.get env 0= .int .u8 v∧Env.get env 5= .int .i64 ((amN v k:Nat):Int)∧σ=σ0
def Ex (h:Nat) (σ0:AS) (v:Int) (n:Nat) (e:AExit) (env:Env) (σ:AS):Prop:=False
theorem J_stable {h:Nat} {σ0:AS} {v:Int} {n:Nat}: ∀k env env' σ,env.length=18→env'.length=18→(∀i,i≠9→i≠16→i≠8→Env.get env' i=Env.get env i)→J h σ0 v n k env σ→J h σ0 v n k env' σ:=by
 rintro k env env' σ _ _ hf ⟨j0,j5,ho⟩
 exact ⟨(hf 0 (by decide) (by decide) (by decide)).trans j0,(hf 5 (by decide) (by decide) (by decide)).trans j5,ho⟩
noncomputable def oT:Oper:=(opsOf (cr [.r, .r, .l, .r, .i, .i, .l])).headD default
noncomputable def oI:List Oper:=opsOf (cr [.r, .r, .l, .r, .i, .i, .r, .r, .r])
theorem loop_eq:(cr [.r, .r, .l, .r])= .block 0 (.loop (.seq (.region 3 #[oT] false) (.seq (.cond (.tmp 9) .skip (.exit 0)) (.seq (.block 1 (.seq (cr [.r, .r, .l, .r, .i, .i, .r, .r, .l, .i, .l]) (.seq (cr [.r, .r, .l, .r, .i, .i, .r, .r, .l, .i, .r, .l]) (.cond (.tmp 13) (cr [.r, .r, .l, .r, .i, .i, .r, .r, .l, .i, .r, .r, .l]) .skip)))) (.region 7 #[oI.headD default,(oI.drop 1).headD default] false))))):=by kernel_rfl
theorem step (cx:Cx) (hcx:cx.esc= []) (hro: ∀k,cx.ro=some k→k≤cx.h) (σ0:AS) (v:Int) (n:Nat) (hv:MOk v) (hn:n≤5) (hst:cx.h≤σ0.st.length):
  ∀k env σ,k<n→env.length=18→Env.get env 8= .int .i64 (k:Int)→Env.get env 7= .int .i64 ((n:Nat):Int)→J cx.h σ0 v n k env σ→ ∃e env' σ',execW Try.prog cx [] (callW Try.prog how) (.block 1 (.seq (cr [.r, .r, .l, .r, .i, .i, .r, .r, .l, .i, .l]) (.seq (cr [.r, .r, .l, .r, .i, .i, .r, .r, .l, .i, .r, .l]) (.cond (.tmp 13) (cr [.r, .r, .l, .r, .i, .i, .r, .r, .l, .i, .r, .r, .l]) .skip)))) (env,σ)=some (e,(env',σ'))∧
   ((e= .normal∧env'.length=18∧Env.get env' 8= .int .i64 (k:Int)∧Env.get env' 7= .int .i64 ((n:Nat):Int)∧J cx.h σ0 v n (k+1) env' σ')∨(e≠ .normal∧Ex cx.h σ0 v n e env' σ')):=by
 rintro k env σ hk hlen f8 f7 ⟨f0,f5,rfl⟩
 obtain ⟨env1,x1a,x1b,x1c,x1d⟩:=rE cx env σ _ hlen hcx f8
 have f0:=(x1d 0 (by decide)).trans f0
 have f5:=(x1d 5 (by decide)).trans f5
 have f7:=(x1d 7 (by decide)).trans f7
 have f8:=(x1d 8 (by decide)).trans f8
 have f6:=x1c
 have h1:=has_c σ.hp σ.st cx.ro v (k:Int) (fun i hi=>Nat.le_trans (hro i hi) hst) hv
 obtain ⟨env2,x2a,x2b,x2c,x2d⟩:=rF cx env1 σ v _ _ x1b hcx f0 f6 h1
 have f0:=(x2d 0 (by decide)).trans f0
 have f5:=(x2d 5 (by decide)).trans f5
 have f6:=(x2d 6 (by decide)).trans f6
 have f7:=(x2d 7 (by decide)).trans f7
 have f8:=(x2d 8 (by decide)).trans f8
 have f13:=x2c
 have hs:=amN_succ v k
 have ha:=amN_le v k
 cases q:hasM v (k:Int) with
 | true=>
  rw[q] at f13 hs
  have ev1:=ev_tmp f13
  obtain ⟨env3,x3a,x3b,x3c,x3d⟩:=rG cx env2 σ _ x2b hcx f5 (wr_ok (by omega) (by omega))
  have f0:=(x3d 0 (by decide)).trans f0
  have f6:=(x3d 6 (by decide)).trans f6
  have f7:=(x3d 7 (by decide)).trans f7
  have f8:=(x3d 8 (by decide)).trans f8
  have f13:=(x3d 13 (by decide)).trans f13
  have f5:=x3c
  exact ⟨.normal,env3,_,(execW_block_of (execW_seq_of x1a (execW_seq_of x2a (execW_cond_t ev1 x3a)))), .inl ⟨rfl,x3b,f8,f7,f0,(by rw[f5,hs]; simp),rfl⟩⟩
 | false=>
  rw[q] at f13 hs
  have ev1:=ev_tmp f13
  exact ⟨.normal,env2,_,(execW_block_of (execW_seq_of x1a (execW_seq_of x2a (execW_cond_f ev1 (by rfl))))), .inl ⟨rfl,x2b,f8,f7,f0,(by rw[f5,hs]; simp),rfl⟩⟩
theorem loop (cx:Cx) (hcx:cx.esc= []) (hro: ∀k,cx.ro=some k→k≤cx.h) (σ0:AS) (v:Int) (n:Nat) (hv:MOk v) (hn:n≤5) (hst:cx.h≤σ0.st.length) (hnn:n≤9223372036854775807) {env:Env} {σ:AS} (hl:env.length=18) (h1:Env.get env 8= .int .i64 0) (h2:Env.get env 7= .int .i64 ((n:Nat):Int)) (h0:J cx.h σ0 v n 0 env σ):
  ∃e env' σ',execW Try.prog cx [] (callW Try.prog how) (cr [.r, .r, .l, .r]) (env,σ)=some (e,(env',σ'))∧((e= .normal∧((env'.length=18∧J cx.h σ0 v n (n) env' σ')∨Ex cx.h σ0 v n (.exit 0) env' σ'))∨(e≠ .normal∧e≠ .exit 0∧Ex cx.h σ0 v n e env' σ')):=by
 rw[loop_eq]
 exact range_std (Ex:=Ex cx.h σ0 v n) (N:=18) (tc:=9) (ti:=8) (tl:=7) (tx:=16) (ty1:=3) (ty2:=3) (ty3:=3) (ty4:=3) ⟨by kernel_rfl,by kernel_rfl,by kernel_rfl⟩ ⟨by kernel_rfl,by kernel_rfl,by kernel_rfl⟩ ⟨by kernel_rfl,by kernel_rfl,by kernel_rfl⟩ (by decide) hnn J_stable (step cx hcx hro σ0 v n hv hn hst) hl h1 h2 h0
theorem ok (hp s:List AObj) (ro:Option Nat) (v:Int) (n:Nat) (hro': ∀k,ro=some k→k≤s.length) (hv:MOk v) (hn:n≤5):
  callW Try.prog how 46 [.int .u8 v, .int .i64 (n:Int)] ⟨hp,s⟩ ro=some (.int .i64 ((amN v n:Nat):Int),⟨hp,s⟩):=by
 let cx:Cx:={h:=s.length,ro:=ro,esc:= []}
 have hcx:cx.esc= []:=rfl
 have hro: ∀k,cx.ro=some k→k≤cx.h:=hro'
 obtain ⟨env,henv⟩: ∃e,e=frameA Try.f46 [.int .u8 v, .int .i64 (n:Int)]:=⟨_,rfl⟩
 have hlen:env.length=18:=by rw[henv]; rfl
 have f0:Env.get env 0= .int .u8 v:=by rw[henv]; rfl
 have f1:Env.get env 1= .int .i64 (n:Int):=by rw[henv]; rfl
 have ho:Outside s.length (AS.mk hp s) (AS.mk hp s):=Outside.refl (Nat.le_refl _)
 obtain ⟨env1,x1a,x1b,x1c,x1d⟩:=rA cx env (AS.mk hp s) hlen hcx
 have f0:=(x1d 0 (by decide)).trans f0
 have f1:=(x1d 1 (by decide)).trans f1
 have f4:=x1c
 obtain ⟨env2,x2a,x2b,x2c,x2d⟩:=rB cx env1 (AS.mk hp s) x1b hcx
 have f0:=(x2d 0 (by decide)).trans f0
 have f1:=(x2d 1 (by decide)).trans f1
 have f4:=(x2d 4 (by decide)).trans f4
 have f5:=x2c
 obtain ⟨env3,x3a,x3b,x3c,x3d⟩:=rC cx env2 (AS.mk hp s) n x2b hcx f1
 have f0:=(x3d 0 (by decide)).trans f0
 have f1:=(x3d 1 (by decide)).trans f1
 have f4:=(x3d 4 (by decide)).trans f4
 have f5:=(x3d 5 (by decide)).trans f5
 have f7:=x3c.1
 have f8:=x3c.2
 obtain ⟨e4,env4,σ4,x4a,x4p⟩:=loop cx hcx hro ⟨hp,s⟩ v n hv hn (Nat.le_refl _) (by omega) (σ:=AS.mk hp s) x3b f8 f7 (⟨f0,f5,rfl⟩)
 rcases x4p with ⟨rfl,⟨x4b,f0,f5,rfl⟩ | x4p⟩ | ⟨x4q,x4r,x4p⟩
 ·skip
  obtain ⟨env5,x5a,x5b,x5c,x5d⟩:=rZ cx env4 (AS.mk hp s) _ x4b hcx f5
  have f0:=(x5d 0 (by decide)).trans f0
  have f5:=(x5d 5 (by decide)).trans f5
  have f4:=x5c
  exact call_of (fl:={}) (fn:=Try.f46) (c:=bodyC) (env:=env) (e:=(.ret,(env5,AS.mk hp s))) rfl Try.func46 body henv (by unfold bodyC; exact (execW_seq_of x1a (execW_seq_of x2a (execW_seq_of (execW_seq_of x3a x4a) (execW_seq_of x5a (by rfl)))))) ((fin_tmp (k:=4) (.inl rfl) rfl rfl f4 (by simp[AV.back]) (by simp[AV.inb])).trans (congrArg (fun x=>some (_,x)) (outside_st ho)))
 ·cases x4p
 ·cases x4p
end F46
section
attribute [local simp] ofV ofCell ofCells seqA_nil seqA_cons seqVK_eq seqEK_eq wantedA yieldedA isVal effA ev evs evps putE optsA optsOk valA fieldAddrA fieldA loadA partA aggA isAggD buildA placesA fillA lay storeA AV.withCells buildSliceA elemsA rowParts fzL promL okE isSrc bytesOk pushA cxOf lenA binA intBinA strBinA unA indexAddrA eqA AVs.inb AV.inb Loc.inb calleeA opsOf sub bodyOf Env.get_set quietA_nil quietA_cons quietK_none quietK_some qstep newA isNew escNew boxOk newLoc flat rowPartsQ quietN quietOp isBS List.takeWhile finishA_eq finK_ret finK_normal retK backK resA oneA AV.back AVs.back execW_seq_eq seqK_normal seqK_ret seqK_exit execW_cond_eq condK_true condK_false execW_block_eq blockK_exit blockK_normal blockK_ret execW_region_eq regK_eq execW_skip execW_exit execW_ret regionA_plain regionA_quiet0 tailK_eq nilCheckA guardOk isConst lookupA keyFits mapUpdateA beqI bneI
theorem wins_raw (hp s:List AObj) (ro:Option Nat) (v n:Int) (a:Nat) (hro: ∀k,ro=some k→k≤s.length) (k1:callW Try.prog how 46 [.int .u8 v, .int .i64 (clampM n)] ⟨hp,s⟩ ro=some (.int .i64 (a:Int),⟨hp,s⟩)) (hc:(if 5<if n<1 then 1 else n then 5 else if n<1 then 1 else n)=clampM n) (hw:wr .i64 (2*(a:Int))=2*(a:Int)):
  callW Try.prog how 29 [.int .u8 v, .int .i64 n] ⟨hp,s⟩ ro=some (.bool (decide (clampM n<2*(a:Int))),⟨hp,s⟩):=by
 refine callW_body (fl:={}) (fn:=Try.f29) (c:=bodyOf Try.f29) rfl Try.func29 rfl ?_
 have henv: ∃e,e=frameA Try.f29 [.int .u8 v, .int .i64 n]:=⟨_,rfl⟩
 obtain ⟨env,henv⟩:=henv
 have hl:env.length=14:=by rw[henv]; rfl
 have h0:Env.get env 0= .int .u8 v:=by rw[henv]; rfl
 have h1:Env.get env 1= .int .i64 n:=by rw[henv]; rfl
 rw[←henv]
 clear henv
 simp -implicitDefEqProofs [Try.f29,hl,h0,h1,wok_le hro,wok_le' hro,k1,hc,hw,minMaxA,mmStep]
end
theorem amN_among (v:Int) (n:Nat):amongM v (n:Int)=((amN v n:Nat):Int):=by
 unfold amongM amN
 rw[Int.toNat_natCast]
theorem clamp_if (n:Int):(if 5<if n<1 then 1 else n then 5 else if n<1 then 1 else n)=clampM n:=by
 unfold clampM
 split <;> split <;> omega
theorem wins_c (hp s:List AObj) (ro:Option Nat) (v n:Int) (hro: ∀k,ro=some k→k≤s.length) (hv:MOk v):callW Try.prog how 29 [.int .u8 v, .int .i64 n] ⟨hp,s⟩ ro=some (.bool (winsM v n),⟨hp,s⟩):=by
 have hc:1≤clampM n∧clampM n≤5:=by unfold clampM; omega
 obtain ⟨m,hm⟩: ∃m:Nat,clampM n=(m:Int):=⟨(clampM n).toNat,by omega⟩
 have h1:=F46.ok hp s ro v m hro hv (by omega)
 rw[←hm] at h1
 have hle:=amN_le v m
 have h2:=wins_raw hp s ro v n (amN v m) hro h1 (clamp_if n) (wr_ok (by omega) (by omega))
 unfold winsM
 rw[h2,hm,amN_among]